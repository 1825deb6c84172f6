/-
  The code of this seat's functions in named pieces: by our program cds.py.
-/
import Derived.Test.YtmdepmhamefheaaFn
import Derived.Test.YtmdepmhamefheaaSe
import Derived.KernelRfl
open Go Go.SY
namespace Go.Proofs.Ytmdepmhamefheaa
noncomputable def body6 : Code := match Try.f6.body with
  | some c => c
  | none => .skip
noncomputable def c6_1 : Code := match code6 with
  | .seq x _ => x
  | _ => .skip
noncomputable def c6_2 : Code := match code6 with
  | .seq _ x => x
  | _ => .skip
theorem cd_code6 : code6 = .seq c6_1 c6_2 := by kernel_rfl
noncomputable def r6_1 : Array Oper := regAt [0] body6
theorem cd_c6_1 : c6_1 = .region 0 r6_1 false := by kernel_rfl
noncomputable def c6_3 : Code := match c6_2 with
  | .seq x _ => x
  | _ => .skip
noncomputable def c6_4 : Code := match c6_2 with
  | .seq _ x => x
  | _ => .skip
theorem cd_c6_2 : c6_2 = .seq c6_3 c6_4 := by kernel_rfl
noncomputable def r6_3 : Array Oper := regAt [1, 0] body6
theorem cd_c6_3 : c6_3 = .region 1 r6_3 false := by kernel_rfl
noncomputable def c6_5 : Code := match c6_4 with
  | .seq x _ => x
  | _ => .skip
noncomputable def c6_6 : Code := match c6_4 with
  | .seq _ x => x
  | _ => .skip
theorem cd_c6_4 : c6_4 = .seq c6_5 c6_6 := by kernel_rfl
noncomputable def r6_5 : Array Oper := regAt [1, 1, 0] body6
theorem cd_c6_5 : c6_5 = .region 2 r6_5 false := by kernel_rfl
noncomputable def c6_7 : Code := match c6_6 with
  | .seq x _ => x
  | _ => .skip
noncomputable def c6_8 : Code := match c6_6 with
  | .seq _ x => x
  | _ => .skip
theorem cd_c6_6 : c6_6 = .seq c6_7 c6_8 := by kernel_rfl
noncomputable def c6_9 : Code := match c6_7 with
  | .seq x _ => x
  | _ => .skip
noncomputable def c6_10 : Code := match c6_7 with
  | .seq _ x => x
  | _ => .skip
theorem cd_c6_7 : c6_7 = .seq c6_9 c6_10 := by kernel_rfl
noncomputable def r6_9 : Array Oper := regAt [1, 1, 1, 0, 0] body6
theorem cd_c6_9 : c6_9 = .region 3 r6_9 false := by kernel_rfl
noncomputable def c6_11 : Code := match c6_10 with
  | .cond _ x _ => x
  | _ => .skip
theorem cd_c6_10 : c6_10 = .cond (.tmp 30) c6_11 .skip := by kernel_rfl
noncomputable def c6_13 : Code := match c6_11 with
  | .seq x _ => x
  | _ => .skip
theorem cd_c6_11 : c6_11 = .seq c6_13 .ret := by kernel_rfl
noncomputable def r6_13 : Array Oper := regAt [1, 1, 1, 0, 1, 1, 0] body6
theorem cd_c6_13 : c6_13 = .region 4 r6_13 false := by kernel_rfl
noncomputable def c6_14 : Code := match c6_8 with
  | .seq x _ => x
  | _ => .skip
noncomputable def c6_15 : Code := match c6_8 with
  | .seq _ x => x
  | _ => .skip
theorem cd_c6_8 : c6_8 = .seq c6_14 c6_15 := by kernel_rfl
noncomputable def c6_16 : Code := match c6_14 with
  | .seq x _ => x
  | _ => .skip
noncomputable def c6_17 : Code := match c6_14 with
  | .seq _ x => x
  | _ => .skip
theorem cd_c6_14 : c6_14 = .seq c6_16 c6_17 := by kernel_rfl
noncomputable def r6_16 : Array Oper := regAt [1, 1, 1, 1, 0, 0] body6
theorem cd_c6_16 : c6_16 = .region 5 r6_16 false := by kernel_rfl
noncomputable def c6_18 : Code := match c6_17 with
  | .cond _ x _ => x
  | _ => .skip
theorem cd_c6_17 : c6_17 = .cond (.tmp 36) c6_18 .skip := by kernel_rfl
noncomputable def c6_20 : Code := match c6_18 with
  | .seq x _ => x
  | _ => .skip
theorem cd_c6_18 : c6_18 = .seq c6_20 .ret := by kernel_rfl
noncomputable def r6_20 : Array Oper := regAt [1, 1, 1, 1, 0, 1, 1, 0] body6
theorem cd_c6_20 : c6_20 = .region 6 r6_20 false := by kernel_rfl
noncomputable def c6_21 : Code := match c6_15 with
  | .seq x _ => x
  | _ => .skip
noncomputable def c6_22 : Code := match c6_15 with
  | .seq _ x => x
  | _ => .skip
theorem cd_c6_15 : c6_15 = .seq c6_21 c6_22 := by kernel_rfl
noncomputable def c6_23 : Code := match c6_21 with
  | .seq x _ => x
  | _ => .skip
noncomputable def c6_24 : Code := match c6_21 with
  | .seq _ x => x
  | _ => .skip
theorem cd_c6_21 : c6_21 = .seq c6_23 c6_24 := by kernel_rfl
noncomputable def r6_23 : Array Oper := regAt [1, 1, 1, 1, 1, 0, 0] body6
theorem cd_c6_23 : c6_23 = .region 7 r6_23 false := by kernel_rfl
noncomputable def c6_25 : Code := match c6_24 with
  | .block _ x => x
  | _ => .skip
theorem cd_c6_24 : c6_24 = .block 0 c6_25 := by kernel_rfl
noncomputable def c6_26 : Code := match c6_25 with
  | .loop x => x
  | _ => .skip
theorem cd_c6_25 : c6_25 = .loop c6_26 := by kernel_rfl
noncomputable def c6_27 : Code := match c6_26 with
  | .seq x _ => x
  | _ => .skip
noncomputable def c6_28 : Code := match c6_26 with
  | .seq _ x => x
  | _ => .skip
theorem cd_c6_26 : c6_26 = .seq c6_27 c6_28 := by kernel_rfl
noncomputable def c6_29 : Code := match c6_27 with
  | .seq x _ => x
  | _ => .skip
noncomputable def c6_30 : Code := match c6_27 with
  | .seq _ x => x
  | _ => .skip
theorem cd_c6_27 : c6_27 = .seq c6_29 c6_30 := by kernel_rfl
noncomputable def r6_29 : Array Oper := regAt [1, 1, 1, 1, 1, 0, 1, 1, 0, 0, 0] body6
theorem cd_c6_29 : c6_29 = .region 8 r6_29 false := by kernel_rfl
theorem cd_c6_30 : c6_30 = .cond (.tmp 41) .skip (.exit 0) := by kernel_rfl
noncomputable def c6_32 : Code := match c6_28 with
  | .seq x _ => x
  | _ => .skip
noncomputable def c6_33 : Code := match c6_28 with
  | .seq _ x => x
  | _ => .skip
theorem cd_c6_28 : c6_28 = .seq c6_32 c6_33 := by kernel_rfl
noncomputable def c6_34 : Code := match c6_32 with
  | .block _ x => x
  | _ => .skip
theorem cd_c6_32 : c6_32 = .block 1 c6_34 := by kernel_rfl
noncomputable def c6_35 : Code := match c6_34 with
  | .seq x _ => x
  | _ => .skip
noncomputable def c6_36 : Code := match c6_34 with
  | .seq _ x => x
  | _ => .skip
theorem cd_c6_34 : c6_34 = .seq c6_35 c6_36 := by kernel_rfl
noncomputable def c6_37 : Code := match c6_35 with
  | .seq x _ => x
  | _ => .skip
noncomputable def c6_38 : Code := match c6_35 with
  | .seq _ x => x
  | _ => .skip
theorem cd_c6_35 : c6_35 = .seq c6_37 c6_38 := by kernel_rfl
noncomputable def r6_37 : Array Oper := regAt [1, 1, 1, 1, 1, 0, 1, 1, 0, 1, 0, 1, 0, 0] body6
theorem cd_c6_37 : c6_37 = .region 10 r6_37 false := by kernel_rfl
noncomputable def c6_39 : Code := match c6_38 with
  | .cond _ x _ => x
  | _ => .skip
theorem cd_c6_38 : c6_38 = .cond (.tmp 49) c6_39 .skip := by kernel_rfl
noncomputable def c6_41 : Code := match c6_39 with
  | .seq x _ => x
  | _ => .skip
noncomputable def c6_42 : Code := match c6_39 with
  | .seq _ x => x
  | _ => .skip
theorem cd_c6_39 : c6_39 = .seq c6_41 c6_42 := by kernel_rfl
noncomputable def r6_41 : Array Oper := regAt [1, 1, 1, 1, 1, 0, 1, 1, 0, 1, 0, 1, 0, 1, 1, 0] body6
theorem cd_c6_41 : c6_41 = .region 11 r6_41 false := by kernel_rfl
noncomputable def c6_43 : Code := match c6_42 with
  | .seq x _ => x
  | _ => .skip
noncomputable def c6_44 : Code := match c6_42 with
  | .seq _ x => x
  | _ => .skip
theorem cd_c6_42 : c6_42 = .seq c6_43 c6_44 := by kernel_rfl
noncomputable def r6_43 : Array Oper := regAt [1, 1, 1, 1, 1, 0, 1, 1, 0, 1, 0, 1, 0, 1, 1, 1, 0] body6
theorem cd_c6_43 : c6_43 = .region 12 r6_43 false := by kernel_rfl
noncomputable def r6_44 : Array Oper := regAt [1, 1, 1, 1, 1, 0, 1, 1, 0, 1, 0, 1, 0, 1, 1, 1, 1] body6
theorem cd_c6_44 : c6_44 = .region 13 r6_44 false := by kernel_rfl
noncomputable def c6_45 : Code := match c6_36 with
  | .seq x _ => x
  | _ => .skip
noncomputable def c6_46 : Code := match c6_36 with
  | .seq _ x => x
  | _ => .skip
theorem cd_c6_36 : c6_36 = .seq c6_45 c6_46 := by kernel_rfl
noncomputable def r6_45 : Array Oper := regAt [1, 1, 1, 1, 1, 0, 1, 1, 0, 1, 0, 1, 1, 0] body6
theorem cd_c6_45 : c6_45 = .region 14 r6_45 false := by kernel_rfl
noncomputable def c6_47 : Code := match c6_46 with
  | .cond _ x _ => x
  | _ => .skip
theorem cd_c6_46 : c6_46 = .cond (.tmp 72) c6_47 .skip := by kernel_rfl
noncomputable def c6_49 : Code := match c6_47 with
  | .seq x _ => x
  | _ => .skip
theorem cd_c6_47 : c6_47 = .seq c6_49 .ret := by kernel_rfl
noncomputable def r6_49 : Array Oper := regAt [1, 1, 1, 1, 1, 0, 1, 1, 0, 1, 0, 1, 1, 1, 1, 0] body6
theorem cd_c6_49 : c6_49 = .region 15 r6_49 false := by kernel_rfl
noncomputable def r6_33 : Array Oper := regAt [1, 1, 1, 1, 1, 0, 1, 1, 0, 1, 1] body6
theorem cd_c6_33 : c6_33 = .region 9 r6_33 false := by kernel_rfl
noncomputable def c6_50 : Code := match c6_22 with
  | .seq x _ => x
  | _ => .skip
theorem cd_c6_22 : c6_22 = .seq c6_50 .ret := by kernel_rfl
noncomputable def r6_50 : Array Oper := regAt [1, 1, 1, 1, 1, 1, 0] body6
theorem cd_c6_50 : c6_50 = .region 16 r6_50 false := by kernel_rfl
noncomputable def body9 : Code := match Try.f9.body with
  | some c => c
  | none => .skip
noncomputable def c9_1 : Code := match code9 with
  | .seq x _ => x
  | _ => .skip
noncomputable def c9_2 : Code := match code9 with
  | .seq _ x => x
  | _ => .skip
theorem cd_code9 : code9 = .seq c9_1 c9_2 := by kernel_rfl
noncomputable def r9_1 : Array Oper := regAt [0] body9
theorem cd_c9_1 : c9_1 = .region 0 r9_1 false := by kernel_rfl
noncomputable def c9_3 : Code := match c9_2 with
  | .seq x _ => x
  | _ => .skip
noncomputable def c9_4 : Code := match c9_2 with
  | .seq _ x => x
  | _ => .skip
theorem cd_c9_2 : c9_2 = .seq c9_3 c9_4 := by kernel_rfl
noncomputable def c9_5 : Code := match c9_3 with
  | .seq x _ => x
  | _ => .skip
noncomputable def c9_6 : Code := match c9_3 with
  | .seq _ x => x
  | _ => .skip
theorem cd_c9_3 : c9_3 = .seq c9_5 c9_6 := by kernel_rfl
noncomputable def r9_5 : Array Oper := regAt [1, 0, 0] body9
theorem cd_c9_5 : c9_5 = .region 1 r9_5 false := by kernel_rfl
noncomputable def c9_7 : Code := match c9_6 with
  | .cond _ x _ => x
  | _ => .skip
theorem cd_c9_6 : c9_6 = .cond (.tmp 9) c9_7 .skip := by kernel_rfl
noncomputable def c9_9 : Code := match c9_7 with
  | .seq x _ => x
  | _ => .skip
theorem cd_c9_7 : c9_7 = .seq c9_9 .ret := by kernel_rfl
noncomputable def r9_9 : Array Oper := regAt [1, 0, 1, 1, 0] body9
theorem cd_c9_9 : c9_9 = .region 2 r9_9 false := by kernel_rfl
noncomputable def c9_10 : Code := match c9_4 with
  | .seq x _ => x
  | _ => .skip
theorem cd_c9_4 : c9_4 = .seq c9_10 .ret := by kernel_rfl
noncomputable def r9_10 : Array Oper := regAt [1, 1, 0] body9
theorem cd_c9_10 : c9_10 = .region 3 r9_10 false := by kernel_rfl
noncomputable def body10 : Code := match Try.f10.body with
  | some c => c
  | none => .skip
noncomputable def c10_1 : Code := match code10 with
  | .seq x _ => x
  | _ => .skip
noncomputable def c10_2 : Code := match code10 with
  | .seq _ x => x
  | _ => .skip
theorem cd_code10 : code10 = .seq c10_1 c10_2 := by kernel_rfl
noncomputable def r10_1 : Array Oper := regAt [0] body10
theorem cd_c10_1 : c10_1 = .region 0 r10_1 false := by kernel_rfl
noncomputable def c10_3 : Code := match c10_2 with
  | .seq x _ => x
  | _ => .skip
noncomputable def c10_4 : Code := match c10_2 with
  | .seq _ x => x
  | _ => .skip
theorem cd_c10_2 : c10_2 = .seq c10_3 c10_4 := by kernel_rfl
noncomputable def c10_5 : Code := match c10_3 with
  | .seq x _ => x
  | _ => .skip
noncomputable def c10_6 : Code := match c10_3 with
  | .seq _ x => x
  | _ => .skip
theorem cd_c10_3 : c10_3 = .seq c10_5 c10_6 := by kernel_rfl
noncomputable def r10_5 : Array Oper := regAt [1, 0, 0] body10
theorem cd_c10_5 : c10_5 = .region 1 r10_5 false := by kernel_rfl
noncomputable def c10_7 : Code := match c10_6 with
  | .cond _ x _ => x
  | _ => .skip
theorem cd_c10_6 : c10_6 = .cond (.tmp 6) c10_7 .skip := by kernel_rfl
noncomputable def c10_9 : Code := match c10_7 with
  | .seq x _ => x
  | _ => .skip
theorem cd_c10_7 : c10_7 = .seq c10_9 .ret := by kernel_rfl
noncomputable def r10_9 : Array Oper := regAt [1, 0, 1, 1, 0] body10
theorem cd_c10_9 : c10_9 = .region 2 r10_9 false := by kernel_rfl
noncomputable def c10_10 : Code := match c10_4 with
  | .seq x _ => x
  | _ => .skip
theorem cd_c10_4 : c10_4 = .seq c10_10 .ret := by kernel_rfl
noncomputable def r10_10 : Array Oper := regAt [1, 1, 0] body10
theorem cd_c10_10 : c10_10 = .region 3 r10_10 false := by kernel_rfl
noncomputable def body11 : Code := match Try.f11.body with
  | some c => c
  | none => .skip
noncomputable def c11_1 : Code := match code11 with
  | .seq x _ => x
  | _ => .skip
noncomputable def c11_2 : Code := match code11 with
  | .seq _ x => x
  | _ => .skip
theorem cd_code11 : code11 = .seq c11_1 c11_2 := by kernel_rfl
noncomputable def r11_1 : Array Oper := regAt [0] body11
theorem cd_c11_1 : c11_1 = .region 0 r11_1 false := by kernel_rfl
noncomputable def c11_3 : Code := match c11_2 with
  | .seq x _ => x
  | _ => .skip
theorem cd_c11_2 : c11_2 = .seq c11_3 .ret := by kernel_rfl
noncomputable def r11_3 : Array Oper := regAt [1, 0] body11
theorem cd_c11_3 : c11_3 = .region 1 r11_3 false := by kernel_rfl
noncomputable def body12 : Code := match Try.f12.body with
  | some c => c
  | none => .skip
noncomputable def c12_1 : Code := match code12 with
  | .seq x _ => x
  | _ => .skip
noncomputable def c12_2 : Code := match code12 with
  | .seq _ x => x
  | _ => .skip
theorem cd_code12 : code12 = .seq c12_1 c12_2 := by kernel_rfl
noncomputable def r12_1 : Array Oper := regAt [0] body12
theorem cd_c12_1 : c12_1 = .region 0 r12_1 false := by kernel_rfl
noncomputable def c12_3 : Code := match c12_2 with
  | .seq x _ => x
  | _ => .skip
noncomputable def c12_4 : Code := match c12_2 with
  | .seq _ x => x
  | _ => .skip
theorem cd_c12_2 : c12_2 = .seq c12_3 c12_4 := by kernel_rfl
noncomputable def c12_5 : Code := match c12_3 with
  | .block _ x => x
  | _ => .skip
theorem cd_c12_3 : c12_3 = .block 0 c12_5 := by kernel_rfl
noncomputable def c12_6 : Code := match c12_5 with
  | .seq x _ => x
  | _ => .skip
noncomputable def c12_7 : Code := match c12_5 with
  | .seq _ x => x
  | _ => .skip
theorem cd_c12_5 : c12_5 = .seq c12_6 c12_7 := by kernel_rfl
noncomputable def r12_6 : Array Oper := regAt [1, 0, 1, 0] body12
theorem cd_c12_6 : c12_6 = .region 1 r12_6 false := by kernel_rfl
noncomputable def c12_8 : Code := match c12_7 with
  | .cond _ x _ => x
  | _ => .skip
noncomputable def c12_9 : Code := match c12_7 with
  | .cond _ _ x => x
  | _ => .skip
theorem cd_c12_7 : c12_7 = .cond (.tmp 5) c12_8 c12_9 := by kernel_rfl
noncomputable def c12_11 : Code := match c12_8 with
  | .seq x _ => x
  | _ => .skip
theorem cd_c12_8 : c12_8 = .seq c12_11 .ret := by kernel_rfl
noncomputable def r12_11 : Array Oper := regAt [1, 0, 1, 1, 1, 0] body12
theorem cd_c12_11 : c12_11 = .region 2 r12_11 false := by kernel_rfl
noncomputable def c12_12 : Code := match c12_9 with
  | .seq x _ => x
  | _ => .skip
noncomputable def c12_13 : Code := match c12_9 with
  | .seq _ x => x
  | _ => .skip
theorem cd_c12_9 : c12_9 = .seq c12_12 c12_13 := by kernel_rfl
noncomputable def r12_12 : Array Oper := regAt [1, 0, 1, 1, 2, 0] body12
theorem cd_c12_12 : c12_12 = .region 3 r12_12 false := by kernel_rfl
noncomputable def c12_14 : Code := match c12_13 with
  | .cond _ x _ => x
  | _ => .skip
theorem cd_c12_13 : c12_13 = .cond (.tmp 8) c12_14 .skip := by kernel_rfl
noncomputable def c12_16 : Code := match c12_14 with
  | .seq x _ => x
  | _ => .skip
theorem cd_c12_14 : c12_14 = .seq c12_16 .ret := by kernel_rfl
noncomputable def r12_16 : Array Oper := regAt [1, 0, 1, 1, 2, 1, 1, 0] body12
theorem cd_c12_16 : c12_16 = .region 4 r12_16 false := by kernel_rfl
noncomputable def c12_17 : Code := match c12_4 with
  | .seq x _ => x
  | _ => .skip
noncomputable def c12_18 : Code := match c12_4 with
  | .seq _ x => x
  | _ => .skip
theorem cd_c12_4 : c12_4 = .seq c12_17 c12_18 := by kernel_rfl
noncomputable def r12_17 : Array Oper := regAt [1, 1, 0] body12
theorem cd_c12_17 : c12_17 = .region 5 r12_17 false := by kernel_rfl
noncomputable def c12_19 : Code := match c12_18 with
  | .seq x _ => x
  | _ => .skip
theorem cd_c12_18 : c12_18 = .seq c12_19 .ret := by kernel_rfl
noncomputable def r12_19 : Array Oper := regAt [1, 1, 1, 0] body12
theorem cd_c12_19 : c12_19 = .region 6 r12_19 false := by kernel_rfl
noncomputable def body13 : Code := match Try.f13.body with
  | some c => c
  | none => .skip
noncomputable def c13_1 : Code := match code13 with
  | .seq x _ => x
  | _ => .skip
noncomputable def c13_2 : Code := match code13 with
  | .seq _ x => x
  | _ => .skip
theorem cd_code13 : code13 = .seq c13_1 c13_2 := by kernel_rfl
noncomputable def r13_1 : Array Oper := regAt [0] body13
theorem cd_c13_1 : c13_1 = .region 0 r13_1 false := by kernel_rfl
noncomputable def c13_3 : Code := match c13_2 with
  | .seq x _ => x
  | _ => .skip
noncomputable def c13_4 : Code := match c13_2 with
  | .seq _ x => x
  | _ => .skip
theorem cd_c13_2 : c13_2 = .seq c13_3 c13_4 := by kernel_rfl
noncomputable def c13_5 : Code := match c13_3 with
  | .seq x _ => x
  | _ => .skip
noncomputable def c13_6 : Code := match c13_3 with
  | .seq _ x => x
  | _ => .skip
theorem cd_c13_3 : c13_3 = .seq c13_5 c13_6 := by kernel_rfl
noncomputable def r13_5 : Array Oper := regAt [1, 0, 0] body13
theorem cd_c13_5 : c13_5 = .region 1 r13_5 false := by kernel_rfl
noncomputable def c13_7 : Code := match c13_6 with
  | .cond _ x _ => x
  | _ => .skip
theorem cd_c13_6 : c13_6 = .cond (.tmp 6) c13_7 .skip := by kernel_rfl
noncomputable def c13_9 : Code := match c13_7 with
  | .seq x _ => x
  | _ => .skip
theorem cd_c13_7 : c13_7 = .seq c13_9 .ret := by kernel_rfl
noncomputable def r13_9 : Array Oper := regAt [1, 0, 1, 1, 0] body13
theorem cd_c13_9 : c13_9 = .region 2 r13_9 false := by kernel_rfl
noncomputable def c13_10 : Code := match c13_4 with
  | .seq x _ => x
  | _ => .skip
noncomputable def c13_11 : Code := match c13_4 with
  | .seq _ x => x
  | _ => .skip
theorem cd_c13_4 : c13_4 = .seq c13_10 c13_11 := by kernel_rfl
noncomputable def r13_10 : Array Oper := regAt [1, 1, 0] body13
theorem cd_c13_10 : c13_10 = .region 3 r13_10 false := by kernel_rfl
noncomputable def c13_12 : Code := match c13_11 with
  | .seq x _ => x
  | _ => .skip
noncomputable def c13_13 : Code := match c13_11 with
  | .seq _ x => x
  | _ => .skip
theorem cd_c13_11 : c13_11 = .seq c13_12 c13_13 := by kernel_rfl
noncomputable def c13_14 : Code := match c13_12 with
  | .seq x _ => x
  | _ => .skip
noncomputable def c13_15 : Code := match c13_12 with
  | .seq _ x => x
  | _ => .skip
theorem cd_c13_12 : c13_12 = .seq c13_14 c13_15 := by kernel_rfl
noncomputable def r13_14 : Array Oper := regAt [1, 1, 1, 0, 0] body13
theorem cd_c13_14 : c13_14 = .region 4 r13_14 false := by kernel_rfl
noncomputable def c13_16 : Code := match c13_15 with
  | .cond _ x _ => x
  | _ => .skip
theorem cd_c13_15 : c13_15 = .cond (.tmp 11) c13_16 .skip := by kernel_rfl
noncomputable def r13_16 : Array Oper := regAt [1, 1, 1, 0, 1, 1] body13
theorem cd_c13_16 : c13_16 = .region 5 r13_16 false := by kernel_rfl
noncomputable def c13_18 : Code := match c13_13 with
  | .seq x _ => x
  | _ => .skip
theorem cd_c13_13 : c13_13 = .seq c13_18 .ret := by kernel_rfl
noncomputable def r13_18 : Array Oper := regAt [1, 1, 1, 1, 0] body13
theorem cd_c13_18 : c13_18 = .region 6 r13_18 false := by kernel_rfl
noncomputable def body14 : Code := match Try.f14.body with
  | some c => c
  | none => .skip
noncomputable def c14_1 : Code := match code14 with
  | .seq x _ => x
  | _ => .skip
noncomputable def c14_2 : Code := match code14 with
  | .seq _ x => x
  | _ => .skip
theorem cd_code14 : code14 = .seq c14_1 c14_2 := by kernel_rfl
noncomputable def r14_1 : Array Oper := regAt [0] body14
theorem cd_c14_1 : c14_1 = .region 0 r14_1 false := by kernel_rfl
noncomputable def c14_3 : Code := match c14_2 with
  | .seq x _ => x
  | _ => .skip
noncomputable def c14_4 : Code := match c14_2 with
  | .seq _ x => x
  | _ => .skip
theorem cd_c14_2 : c14_2 = .seq c14_3 c14_4 := by kernel_rfl
noncomputable def c14_5 : Code := match c14_3 with
  | .seq x _ => x
  | _ => .skip
noncomputable def c14_6 : Code := match c14_3 with
  | .seq _ x => x
  | _ => .skip
theorem cd_c14_3 : c14_3 = .seq c14_5 c14_6 := by kernel_rfl
noncomputable def r14_5 : Array Oper := regAt [1, 0, 0] body14
theorem cd_c14_5 : c14_5 = .region 1 r14_5 false := by kernel_rfl
noncomputable def c14_7 : Code := match c14_6 with
  | .cond _ x _ => x
  | _ => .skip
theorem cd_c14_6 : c14_6 = .cond (.tmp 6) c14_7 .skip := by kernel_rfl
noncomputable def c14_9 : Code := match c14_7 with
  | .seq x _ => x
  | _ => .skip
theorem cd_c14_7 : c14_7 = .seq c14_9 .ret := by kernel_rfl
noncomputable def r14_9 : Array Oper := regAt [1, 0, 1, 1, 0] body14
theorem cd_c14_9 : c14_9 = .region 2 r14_9 false := by kernel_rfl
noncomputable def c14_10 : Code := match c14_4 with
  | .seq x _ => x
  | _ => .skip
theorem cd_c14_4 : c14_4 = .seq c14_10 .ret := by kernel_rfl
noncomputable def r14_10 : Array Oper := regAt [1, 1, 0] body14
theorem cd_c14_10 : c14_10 = .region 3 r14_10 false := by kernel_rfl
noncomputable def body15 : Code := match Try.f15.body with
  | some c => c
  | none => .skip
noncomputable def c15_1 : Code := match code15 with
  | .seq x _ => x
  | _ => .skip
noncomputable def c15_2 : Code := match code15 with
  | .seq _ x => x
  | _ => .skip
theorem cd_code15 : code15 = .seq c15_1 c15_2 := by kernel_rfl
noncomputable def r15_1 : Array Oper := regAt [0] body15
theorem cd_c15_1 : c15_1 = .region 0 r15_1 false := by kernel_rfl
noncomputable def c15_3 : Code := match c15_2 with
  | .seq x _ => x
  | _ => .skip
theorem cd_c15_2 : c15_2 = .seq c15_3 .ret := by kernel_rfl
noncomputable def r15_3 : Array Oper := regAt [1, 0] body15
theorem cd_c15_3 : c15_3 = .region 1 r15_3 false := by kernel_rfl
noncomputable def body16 : Code := match Try.f16.body with
  | some c => c
  | none => .skip
noncomputable def c16_1 : Code := match code16 with
  | .seq x _ => x
  | _ => .skip
noncomputable def c16_2 : Code := match code16 with
  | .seq _ x => x
  | _ => .skip
theorem cd_code16 : code16 = .seq c16_1 c16_2 := by kernel_rfl
noncomputable def r16_1 : Array Oper := regAt [0] body16
theorem cd_c16_1 : c16_1 = .region 0 r16_1 false := by kernel_rfl
noncomputable def c16_3 : Code := match c16_2 with
  | .seq x _ => x
  | _ => .skip
noncomputable def c16_4 : Code := match c16_2 with
  | .seq _ x => x
  | _ => .skip
theorem cd_c16_2 : c16_2 = .seq c16_3 c16_4 := by kernel_rfl
noncomputable def c16_5 : Code := match c16_3 with
  | .block _ x => x
  | _ => .skip
theorem cd_c16_3 : c16_3 = .block 0 c16_5 := by kernel_rfl
noncomputable def c16_6 : Code := match c16_5 with
  | .seq x _ => x
  | _ => .skip
noncomputable def c16_7 : Code := match c16_5 with
  | .seq _ x => x
  | _ => .skip
theorem cd_c16_5 : c16_5 = .seq c16_6 c16_7 := by kernel_rfl
noncomputable def r16_6 : Array Oper := regAt [1, 0, 1, 0] body16
theorem cd_c16_6 : c16_6 = .region 1 r16_6 false := by kernel_rfl
noncomputable def c16_8 : Code := match c16_7 with
  | .cond _ x _ => x
  | _ => .skip
noncomputable def c16_9 : Code := match c16_7 with
  | .cond _ _ x => x
  | _ => .skip
theorem cd_c16_7 : c16_7 = .cond (.tmp 5) c16_8 c16_9 := by kernel_rfl
noncomputable def c16_11 : Code := match c16_8 with
  | .seq x _ => x
  | _ => .skip
theorem cd_c16_8 : c16_8 = .seq c16_11 .ret := by kernel_rfl
noncomputable def r16_11 : Array Oper := regAt [1, 0, 1, 1, 1, 0] body16
theorem cd_c16_11 : c16_11 = .region 2 r16_11 false := by kernel_rfl
noncomputable def c16_12 : Code := match c16_9 with
  | .seq x _ => x
  | _ => .skip
noncomputable def c16_13 : Code := match c16_9 with
  | .seq _ x => x
  | _ => .skip
theorem cd_c16_9 : c16_9 = .seq c16_12 c16_13 := by kernel_rfl
noncomputable def r16_12 : Array Oper := regAt [1, 0, 1, 1, 2, 0] body16
theorem cd_c16_12 : c16_12 = .region 3 r16_12 false := by kernel_rfl
noncomputable def c16_14 : Code := match c16_13 with
  | .cond _ x _ => x
  | _ => .skip
theorem cd_c16_13 : c16_13 = .cond (.tmp 8) c16_14 .skip := by kernel_rfl
noncomputable def c16_16 : Code := match c16_14 with
  | .seq x _ => x
  | _ => .skip
theorem cd_c16_14 : c16_14 = .seq c16_16 .ret := by kernel_rfl
noncomputable def r16_16 : Array Oper := regAt [1, 0, 1, 1, 2, 1, 1, 0] body16
theorem cd_c16_16 : c16_16 = .region 4 r16_16 false := by kernel_rfl
noncomputable def c16_17 : Code := match c16_4 with
  | .seq x _ => x
  | _ => .skip
noncomputable def c16_18 : Code := match c16_4 with
  | .seq _ x => x
  | _ => .skip
theorem cd_c16_4 : c16_4 = .seq c16_17 c16_18 := by kernel_rfl
noncomputable def r16_17 : Array Oper := regAt [1, 1, 0] body16
theorem cd_c16_17 : c16_17 = .region 5 r16_17 true := by kernel_rfl
noncomputable def c16_19 : Code := match c16_18 with
  | .seq x _ => x
  | _ => .skip
noncomputable def c16_20 : Code := match c16_18 with
  | .seq _ x => x
  | _ => .skip
theorem cd_c16_18 : c16_18 = .seq c16_19 c16_20 := by kernel_rfl
noncomputable def r16_19 : Array Oper := regAt [1, 1, 1, 0] body16
theorem cd_c16_19 : c16_19 = .region 6 r16_19 true := by kernel_rfl
noncomputable def c16_21 : Code := match c16_20 with
  | .seq x _ => x
  | _ => .skip
noncomputable def c16_22 : Code := match c16_20 with
  | .seq _ x => x
  | _ => .skip
theorem cd_c16_20 : c16_20 = .seq c16_21 c16_22 := by kernel_rfl
noncomputable def r16_21 : Array Oper := regAt [1, 1, 1, 1, 0] body16
theorem cd_c16_21 : c16_21 = .region 7 r16_21 false := by kernel_rfl
noncomputable def c16_23 : Code := match c16_22 with
  | .seq x _ => x
  | _ => .skip
noncomputable def c16_24 : Code := match c16_22 with
  | .seq _ x => x
  | _ => .skip
theorem cd_c16_22 : c16_22 = .seq c16_23 c16_24 := by kernel_rfl
noncomputable def r16_23 : Array Oper := regAt [1, 1, 1, 1, 1, 0] body16
theorem cd_c16_23 : c16_23 = .region 8 r16_23 false := by kernel_rfl
noncomputable def c16_25 : Code := match c16_24 with
  | .seq x _ => x
  | _ => .skip
theorem cd_c16_24 : c16_24 = .seq c16_25 .ret := by kernel_rfl
noncomputable def r16_25 : Array Oper := regAt [1, 1, 1, 1, 1, 1, 0] body16
theorem cd_c16_25 : c16_25 = .region 9 r16_25 false := by kernel_rfl
noncomputable def body18 : Code := match Try.f18.body with
  | some c => c
  | none => .skip
noncomputable def c18_1 : Code := match code18 with
  | .seq x _ => x
  | _ => .skip
noncomputable def c18_2 : Code := match code18 with
  | .seq _ x => x
  | _ => .skip
theorem cd_code18 : code18 = .seq c18_1 c18_2 := by kernel_rfl
noncomputable def r18_1 : Array Oper := regAt [0] body18
theorem cd_c18_1 : c18_1 = .region 0 r18_1 false := by kernel_rfl
noncomputable def c18_3 : Code := match c18_2 with
  | .seq x _ => x
  | _ => .skip
noncomputable def c18_4 : Code := match c18_2 with
  | .seq _ x => x
  | _ => .skip
theorem cd_c18_2 : c18_2 = .seq c18_3 c18_4 := by kernel_rfl
noncomputable def c18_5 : Code := match c18_3 with
  | .block _ x => x
  | _ => .skip
theorem cd_c18_3 : c18_3 = .block 0 c18_5 := by kernel_rfl
noncomputable def c18_6 : Code := match c18_5 with
  | .seq x _ => x
  | _ => .skip
noncomputable def c18_7 : Code := match c18_5 with
  | .seq _ x => x
  | _ => .skip
theorem cd_c18_5 : c18_5 = .seq c18_6 c18_7 := by kernel_rfl
noncomputable def r18_6 : Array Oper := regAt [1, 0, 1, 0] body18
theorem cd_c18_6 : c18_6 = .region 1 r18_6 false := by kernel_rfl
noncomputable def c18_8 : Code := match c18_7 with
  | .cond _ x _ => x
  | _ => .skip
noncomputable def c18_9 : Code := match c18_7 with
  | .cond _ _ x => x
  | _ => .skip
theorem cd_c18_7 : c18_7 = .cond (.tmp 4) c18_8 c18_9 := by kernel_rfl
noncomputable def c18_11 : Code := match c18_8 with
  | .seq x _ => x
  | _ => .skip
theorem cd_c18_8 : c18_8 = .seq c18_11 .ret := by kernel_rfl
noncomputable def r18_11 : Array Oper := regAt [1, 0, 1, 1, 1, 0] body18
theorem cd_c18_11 : c18_11 = .region 2 r18_11 false := by kernel_rfl
noncomputable def c18_12 : Code := match c18_9 with
  | .seq x _ => x
  | _ => .skip
noncomputable def c18_13 : Code := match c18_9 with
  | .seq _ x => x
  | _ => .skip
theorem cd_c18_9 : c18_9 = .seq c18_12 c18_13 := by kernel_rfl
noncomputable def r18_12 : Array Oper := regAt [1, 0, 1, 1, 2, 0] body18
theorem cd_c18_12 : c18_12 = .region 3 r18_12 false := by kernel_rfl
noncomputable def c18_14 : Code := match c18_13 with
  | .cond _ x _ => x
  | _ => .skip
theorem cd_c18_13 : c18_13 = .cond (.tmp 7) c18_14 .skip := by kernel_rfl
noncomputable def c18_16 : Code := match c18_14 with
  | .seq x _ => x
  | _ => .skip
theorem cd_c18_14 : c18_14 = .seq c18_16 .ret := by kernel_rfl
noncomputable def r18_16 : Array Oper := regAt [1, 0, 1, 1, 2, 1, 1, 0] body18
theorem cd_c18_16 : c18_16 = .region 4 r18_16 false := by kernel_rfl
noncomputable def c18_17 : Code := match c18_4 with
  | .seq x _ => x
  | _ => .skip
theorem cd_c18_4 : c18_4 = .seq c18_17 .ret := by kernel_rfl
noncomputable def r18_17 : Array Oper := regAt [1, 1, 0] body18
theorem cd_c18_17 : c18_17 = .region 5 r18_17 false := by kernel_rfl
noncomputable def body19 : Code := match Try.f19.body with
  | some c => c
  | none => .skip
noncomputable def c19_1 : Code := match code19 with
  | .seq x _ => x
  | _ => .skip
noncomputable def c19_2 : Code := match code19 with
  | .seq _ x => x
  | _ => .skip
theorem cd_code19 : code19 = .seq c19_1 c19_2 := by kernel_rfl
noncomputable def r19_1 : Array Oper := regAt [0] body19
theorem cd_c19_1 : c19_1 = .region 0 r19_1 false := by kernel_rfl
noncomputable def c19_3 : Code := match c19_2 with
  | .seq x _ => x
  | _ => .skip
theorem cd_c19_2 : c19_2 = .seq c19_3 .ret := by kernel_rfl
noncomputable def r19_3 : Array Oper := regAt [1, 0] body19
theorem cd_c19_3 : c19_3 = .region 1 r19_3 false := by kernel_rfl
noncomputable def body20 : Code := match Try.f20.body with
  | some c => c
  | none => .skip
noncomputable def c20_1 : Code := match code20 with
  | .seq x _ => x
  | _ => .skip
noncomputable def c20_2 : Code := match code20 with
  | .seq _ x => x
  | _ => .skip
theorem cd_code20 : code20 = .seq c20_1 c20_2 := by kernel_rfl
noncomputable def r20_1 : Array Oper := regAt [0] body20
theorem cd_c20_1 : c20_1 = .region 0 r20_1 false := by kernel_rfl
noncomputable def c20_3 : Code := match c20_2 with
  | .seq x _ => x
  | _ => .skip
theorem cd_c20_2 : c20_2 = .seq c20_3 .ret := by kernel_rfl
noncomputable def r20_3 : Array Oper := regAt [1, 0] body20
theorem cd_c20_3 : c20_3 = .region 1 r20_3 false := by kernel_rfl
noncomputable def body22 : Code := match Try.f22.body with
  | some c => c
  | none => .skip
noncomputable def c22_1 : Code := match code22 with
  | .seq x _ => x
  | _ => .skip
noncomputable def c22_2 : Code := match code22 with
  | .seq _ x => x
  | _ => .skip
theorem cd_code22 : code22 = .seq c22_1 c22_2 := by kernel_rfl
noncomputable def r22_1 : Array Oper := regAt [0] body22
theorem cd_c22_1 : c22_1 = .region 0 r22_1 false := by kernel_rfl
noncomputable def c22_3 : Code := match c22_2 with
  | .seq x _ => x
  | _ => .skip
theorem cd_c22_2 : c22_2 = .seq c22_3 .ret := by kernel_rfl
noncomputable def r22_3 : Array Oper := regAt [1, 0] body22
theorem cd_c22_3 : c22_3 = .region 1 r22_3 false := by kernel_rfl
noncomputable def body23 : Code := match Try.f23.body with
  | some c => c
  | none => .skip
noncomputable def c23_1 : Code := match code23 with
  | .seq x _ => x
  | _ => .skip
noncomputable def c23_2 : Code := match code23 with
  | .seq _ x => x
  | _ => .skip
theorem cd_code23 : code23 = .seq c23_1 c23_2 := by kernel_rfl
noncomputable def r23_1 : Array Oper := regAt [0] body23
theorem cd_c23_1 : c23_1 = .region 0 r23_1 false := by kernel_rfl
noncomputable def c23_3 : Code := match c23_2 with
  | .seq x _ => x
  | _ => .skip
noncomputable def c23_4 : Code := match c23_2 with
  | .seq _ x => x
  | _ => .skip
theorem cd_c23_2 : c23_2 = .seq c23_3 c23_4 := by kernel_rfl
noncomputable def c23_5 : Code := match c23_3 with
  | .seq x _ => x
  | _ => .skip
noncomputable def c23_6 : Code := match c23_3 with
  | .seq _ x => x
  | _ => .skip
theorem cd_c23_3 : c23_3 = .seq c23_5 c23_6 := by kernel_rfl
noncomputable def r23_5 : Array Oper := regAt [1, 0, 0] body23
theorem cd_c23_5 : c23_5 = .region 1 r23_5 false := by kernel_rfl
noncomputable def c23_7 : Code := match c23_6 with
  | .block _ x => x
  | _ => .skip
theorem cd_c23_6 : c23_6 = .block 0 c23_7 := by kernel_rfl
noncomputable def c23_8 : Code := match c23_7 with
  | .loop x => x
  | _ => .skip
theorem cd_c23_7 : c23_7 = .loop c23_8 := by kernel_rfl
noncomputable def c23_9 : Code := match c23_8 with
  | .seq x _ => x
  | _ => .skip
noncomputable def c23_10 : Code := match c23_8 with
  | .seq _ x => x
  | _ => .skip
theorem cd_c23_8 : c23_8 = .seq c23_9 c23_10 := by kernel_rfl
noncomputable def c23_11 : Code := match c23_9 with
  | .seq x _ => x
  | _ => .skip
noncomputable def c23_12 : Code := match c23_9 with
  | .seq _ x => x
  | _ => .skip
theorem cd_c23_9 : c23_9 = .seq c23_11 c23_12 := by kernel_rfl
noncomputable def r23_11 : Array Oper := regAt [1, 0, 1, 1, 0, 0, 0] body23
theorem cd_c23_11 : c23_11 = .region 2 r23_11 false := by kernel_rfl
theorem cd_c23_12 : c23_12 = .cond (.tmp 11) .skip (.exit 0) := by kernel_rfl
noncomputable def c23_14 : Code := match c23_10 with
  | .seq x _ => x
  | _ => .skip
noncomputable def c23_15 : Code := match c23_10 with
  | .seq _ x => x
  | _ => .skip
theorem cd_c23_10 : c23_10 = .seq c23_14 c23_15 := by kernel_rfl
noncomputable def c23_16 : Code := match c23_14 with
  | .block _ x => x
  | _ => .skip
theorem cd_c23_14 : c23_14 = .block 1 c23_16 := by kernel_rfl
noncomputable def c23_17 : Code := match c23_16 with
  | .seq x _ => x
  | _ => .skip
noncomputable def c23_18 : Code := match c23_16 with
  | .seq _ x => x
  | _ => .skip
theorem cd_c23_16 : c23_16 = .seq c23_17 c23_18 := by kernel_rfl
noncomputable def r23_17 : Array Oper := regAt [1, 0, 1, 1, 0, 1, 0, 1, 0] body23
theorem cd_c23_17 : c23_17 = .region 4 r23_17 false := by kernel_rfl
noncomputable def c23_19 : Code := match c23_18 with
  | .cond _ x _ => x
  | _ => .skip
theorem cd_c23_18 : c23_18 = .cond (.tmp 20) c23_19 .skip := by kernel_rfl
noncomputable def c23_21 : Code := match c23_19 with
  | .seq x _ => x
  | _ => .skip
theorem cd_c23_19 : c23_19 = .seq c23_21 .ret := by kernel_rfl
noncomputable def r23_21 : Array Oper := regAt [1, 0, 1, 1, 0, 1, 0, 1, 1, 1, 0] body23
theorem cd_c23_21 : c23_21 = .region 5 r23_21 false := by kernel_rfl
noncomputable def r23_15 : Array Oper := regAt [1, 0, 1, 1, 0, 1, 1] body23
theorem cd_c23_15 : c23_15 = .region 3 r23_15 false := by kernel_rfl
noncomputable def c23_22 : Code := match c23_4 with
  | .seq x _ => x
  | _ => .skip
theorem cd_c23_4 : c23_4 = .seq c23_22 .ret := by kernel_rfl
noncomputable def r23_22 : Array Oper := regAt [1, 1, 0] body23
theorem cd_c23_22 : c23_22 = .region 6 r23_22 false := by kernel_rfl
noncomputable def body24 : Code := match Try.f24.body with
  | some c => c
  | none => .skip
noncomputable def c24_1 : Code := match code24 with
  | .seq x _ => x
  | _ => .skip
noncomputable def c24_2 : Code := match code24 with
  | .seq _ x => x
  | _ => .skip
theorem cd_code24 : code24 = .seq c24_1 c24_2 := by kernel_rfl
noncomputable def r24_1 : Array Oper := regAt [0] body24
theorem cd_c24_1 : c24_1 = .region 0 r24_1 false := by kernel_rfl
noncomputable def c24_3 : Code := match c24_2 with
  | .seq x _ => x
  | _ => .skip
noncomputable def c24_4 : Code := match c24_2 with
  | .seq _ x => x
  | _ => .skip
theorem cd_c24_2 : c24_2 = .seq c24_3 c24_4 := by kernel_rfl
noncomputable def c24_5 : Code := match c24_3 with
  | .seq x _ => x
  | _ => .skip
noncomputable def c24_6 : Code := match c24_3 with
  | .seq _ x => x
  | _ => .skip
theorem cd_c24_3 : c24_3 = .seq c24_5 c24_6 := by kernel_rfl
noncomputable def r24_5 : Array Oper := regAt [1, 0, 0] body24
theorem cd_c24_5 : c24_5 = .region 1 r24_5 false := by kernel_rfl
noncomputable def c24_7 : Code := match c24_6 with
  | .cond _ x _ => x
  | _ => .skip
theorem cd_c24_6 : c24_6 = .cond (.tmp 4) c24_7 .skip := by kernel_rfl
noncomputable def c24_9 : Code := match c24_7 with
  | .seq x _ => x
  | _ => .skip
theorem cd_c24_7 : c24_7 = .seq c24_9 .ret := by kernel_rfl
noncomputable def r24_9 : Array Oper := regAt [1, 0, 1, 1, 0] body24
theorem cd_c24_9 : c24_9 = .region 2 r24_9 false := by kernel_rfl
noncomputable def c24_10 : Code := match c24_4 with
  | .seq x _ => x
  | _ => .skip
theorem cd_c24_4 : c24_4 = .seq c24_10 .ret := by kernel_rfl
noncomputable def r24_10 : Array Oper := regAt [1, 1, 0] body24
theorem cd_c24_10 : c24_10 = .region 3 r24_10 false := by kernel_rfl
noncomputable def body25 : Code := match Try.f25.body with
  | some c => c
  | none => .skip
noncomputable def c25_1 : Code := match code25 with
  | .seq x _ => x
  | _ => .skip
noncomputable def c25_2 : Code := match code25 with
  | .seq _ x => x
  | _ => .skip
theorem cd_code25 : code25 = .seq c25_1 c25_2 := by kernel_rfl
noncomputable def r25_1 : Array Oper := regAt [0] body25
theorem cd_c25_1 : c25_1 = .region 0 r25_1 false := by kernel_rfl
noncomputable def c25_3 : Code := match c25_2 with
  | .seq x _ => x
  | _ => .skip
noncomputable def c25_4 : Code := match c25_2 with
  | .seq _ x => x
  | _ => .skip
theorem cd_c25_2 : c25_2 = .seq c25_3 c25_4 := by kernel_rfl
noncomputable def r25_3 : Array Oper := regAt [1, 0] body25
theorem cd_c25_3 : c25_3 = .region 1 r25_3 false := by kernel_rfl
noncomputable def c25_5 : Code := match c25_4 with
  | .block _ x => x
  | _ => .skip
theorem cd_c25_4 : c25_4 = .block 0 c25_5 := by kernel_rfl
noncomputable def c25_6 : Code := match c25_5 with
  | .seq x _ => x
  | _ => .skip
noncomputable def c25_7 : Code := match c25_5 with
  | .seq _ x => x
  | _ => .skip
theorem cd_c25_5 : c25_5 = .seq c25_6 c25_7 := by kernel_rfl
noncomputable def c25_8 : Code := match c25_6 with
  | .seq x _ => x
  | _ => .skip
noncomputable def c25_9 : Code := match c25_6 with
  | .seq _ x => x
  | _ => .skip
theorem cd_c25_6 : c25_6 = .seq c25_8 c25_9 := by kernel_rfl
noncomputable def r25_8 : Array Oper := regAt [1, 1, 1, 0, 0] body25
theorem cd_c25_8 : c25_8 = .region 2 r25_8 false := by kernel_rfl
noncomputable def c25_10 : Code := match c25_9 with
  | .cond _ _ x => x
  | _ => .skip
theorem cd_c25_9 : c25_9 = .cond (.tmp 6) .skip c25_10 := by kernel_rfl
noncomputable def r25_10 : Array Oper := regAt [1, 1, 1, 0, 1, 2] body25
theorem cd_c25_10 : c25_10 = .region 3 r25_10 false := by kernel_rfl
noncomputable def c25_12 : Code := match c25_7 with
  | .cond _ x _ => x
  | _ => .skip
noncomputable def c25_13 : Code := match c25_7 with
  | .cond _ _ x => x
  | _ => .skip
theorem cd_c25_7 : c25_7 = .cond (.tmp 6) c25_12 c25_13 := by kernel_rfl
noncomputable def r25_12 : Array Oper := regAt [1, 1, 1, 1, 1] body25
theorem cd_c25_12 : c25_12 = .region 4 r25_12 false := by kernel_rfl
noncomputable def c25_15 : Code := match c25_13 with
  | .seq x _ => x
  | _ => .skip
noncomputable def c25_16 : Code := match c25_13 with
  | .seq _ x => x
  | _ => .skip
theorem cd_c25_13 : c25_13 = .seq c25_15 c25_16 := by kernel_rfl
noncomputable def r25_15 : Array Oper := regAt [1, 1, 1, 1, 2, 0] body25
theorem cd_c25_15 : c25_15 = .region 5 r25_15 false := by kernel_rfl
noncomputable def c25_17 : Code := match c25_16 with
  | .cond _ x _ => x
  | _ => .skip
noncomputable def c25_18 : Code := match c25_16 with
  | .cond _ _ x => x
  | _ => .skip
theorem cd_c25_16 : c25_16 = .cond (.tmp 13) c25_17 c25_18 := by kernel_rfl
noncomputable def r25_17 : Array Oper := regAt [1, 1, 1, 1, 2, 1, 1] body25
theorem cd_c25_17 : c25_17 = .region 6 r25_17 false := by kernel_rfl
noncomputable def c25_20 : Code := match c25_18 with
  | .seq x _ => x
  | _ => .skip
noncomputable def c25_21 : Code := match c25_18 with
  | .seq _ x => x
  | _ => .skip
theorem cd_c25_18 : c25_18 = .seq c25_20 c25_21 := by kernel_rfl
noncomputable def r25_20 : Array Oper := regAt [1, 1, 1, 1, 2, 1, 2, 0] body25
theorem cd_c25_20 : c25_20 = .region 7 r25_20 false := by kernel_rfl
noncomputable def c25_22 : Code := match c25_21 with
  | .cond _ x _ => x
  | _ => .skip
noncomputable def c25_23 : Code := match c25_21 with
  | .cond _ _ x => x
  | _ => .skip
theorem cd_c25_21 : c25_21 = .cond (.tmp 17) c25_22 c25_23 := by kernel_rfl
noncomputable def r25_22 : Array Oper := regAt [1, 1, 1, 1, 2, 1, 2, 1, 1] body25
theorem cd_c25_22 : c25_22 = .region 8 r25_22 false := by kernel_rfl
noncomputable def c25_25 : Code := match c25_23 with
  | .seq x _ => x
  | _ => .skip
noncomputable def c25_26 : Code := match c25_23 with
  | .seq _ x => x
  | _ => .skip
theorem cd_c25_23 : c25_23 = .seq c25_25 c25_26 := by kernel_rfl
noncomputable def r25_25 : Array Oper := regAt [1, 1, 1, 1, 2, 1, 2, 1, 2, 0] body25
theorem cd_c25_25 : c25_25 = .region 9 r25_25 false := by kernel_rfl
noncomputable def c25_27 : Code := match c25_26 with
  | .cond _ x _ => x
  | _ => .skip
noncomputable def c25_28 : Code := match c25_26 with
  | .cond _ _ x => x
  | _ => .skip
theorem cd_c25_26 : c25_26 = .cond (.tmp 23) c25_27 c25_28 := by kernel_rfl
noncomputable def r25_27 : Array Oper := regAt [1, 1, 1, 1, 2, 1, 2, 1, 2, 1, 1] body25
theorem cd_c25_27 : c25_27 = .region 10 r25_27 false := by kernel_rfl
noncomputable def c25_30 : Code := match c25_28 with
  | .seq x _ => x
  | _ => .skip
noncomputable def c25_31 : Code := match c25_28 with
  | .seq _ x => x
  | _ => .skip
theorem cd_c25_28 : c25_28 = .seq c25_30 c25_31 := by kernel_rfl
noncomputable def r25_30 : Array Oper := regAt [1, 1, 1, 1, 2, 1, 2, 1, 2, 1, 2, 0] body25
theorem cd_c25_30 : c25_30 = .region 11 r25_30 false := by kernel_rfl
noncomputable def c25_32 : Code := match c25_31 with
  | .cond _ x _ => x
  | _ => .skip
noncomputable def c25_33 : Code := match c25_31 with
  | .cond _ _ x => x
  | _ => .skip
theorem cd_c25_31 : c25_31 = .cond (.tmp 27) c25_32 c25_33 := by kernel_rfl
noncomputable def r25_32 : Array Oper := regAt [1, 1, 1, 1, 2, 1, 2, 1, 2, 1, 2, 1, 1] body25
theorem cd_c25_32 : c25_32 = .region 12 r25_32 false := by kernel_rfl
noncomputable def c25_35 : Code := match c25_33 with
  | .seq x _ => x
  | _ => .skip
noncomputable def c25_36 : Code := match c25_33 with
  | .seq _ x => x
  | _ => .skip
theorem cd_c25_33 : c25_33 = .seq c25_35 c25_36 := by kernel_rfl
noncomputable def r25_35 : Array Oper := regAt [1, 1, 1, 1, 2, 1, 2, 1, 2, 1, 2, 1, 2, 0] body25
theorem cd_c25_35 : c25_35 = .region 13 r25_35 false := by kernel_rfl
noncomputable def c25_37 : Code := match c25_36 with
  | .cond _ x _ => x
  | _ => .skip
noncomputable def c25_38 : Code := match c25_36 with
  | .cond _ _ x => x
  | _ => .skip
theorem cd_c25_36 : c25_36 = .cond (.tmp 33) c25_37 c25_38 := by kernel_rfl
noncomputable def r25_37 : Array Oper := regAt [1, 1, 1, 1, 2, 1, 2, 1, 2, 1, 2, 1, 2, 1, 1] body25
theorem cd_c25_37 : c25_37 = .region 14 r25_37 false := by kernel_rfl
noncomputable def c25_40 : Code := match c25_38 with
  | .seq x _ => x
  | _ => .skip
noncomputable def c25_41 : Code := match c25_38 with
  | .seq _ x => x
  | _ => .skip
theorem cd_c25_38 : c25_38 = .seq c25_40 c25_41 := by kernel_rfl
noncomputable def r25_40 : Array Oper := regAt [1, 1, 1, 1, 2, 1, 2, 1, 2, 1, 2, 1, 2, 1, 2, 0] body25
theorem cd_c25_40 : c25_40 = .region 15 r25_40 false := by kernel_rfl
noncomputable def c25_42 : Code := match c25_41 with
  | .cond _ x _ => x
  | _ => .skip
noncomputable def c25_43 : Code := match c25_41 with
  | .cond _ _ x => x
  | _ => .skip
theorem cd_c25_41 : c25_41 = .cond (.tmp 39) c25_42 c25_43 := by kernel_rfl
noncomputable def r25_42 : Array Oper := regAt [1, 1, 1, 1, 2, 1, 2, 1, 2, 1, 2, 1, 2, 1, 2, 1, 1] body25
theorem cd_c25_42 : c25_42 = .region 16 r25_42 false := by kernel_rfl
noncomputable def c25_45 : Code := match c25_43 with
  | .seq x _ => x
  | _ => .skip
noncomputable def c25_46 : Code := match c25_43 with
  | .seq _ x => x
  | _ => .skip
theorem cd_c25_43 : c25_43 = .seq c25_45 c25_46 := by kernel_rfl
noncomputable def r25_45 : Array Oper := regAt [1, 1, 1, 1, 2, 1, 2, 1, 2, 1, 2, 1, 2, 1, 2, 1, 2, 0] body25
theorem cd_c25_45 : c25_45 = .region 17 r25_45 false := by kernel_rfl
noncomputable def c25_47 : Code := match c25_46 with
  | .cond _ x _ => x
  | _ => .skip
theorem cd_c25_46 : c25_46 = .cond (.tmp 45) c25_47 .skip := by kernel_rfl
noncomputable def r25_47 : Array Oper := regAt [1, 1, 1, 1, 2, 1, 2, 1, 2, 1, 2, 1, 2, 1, 2, 1, 2, 1, 1] body25
theorem cd_c25_47 : c25_47 = .region 18 r25_47 false := by kernel_rfl
noncomputable def body26 : Code := match Try.f26.body with
  | some c => c
  | none => .skip
noncomputable def c26_1 : Code := match code26 with
  | .seq x _ => x
  | _ => .skip
noncomputable def c26_2 : Code := match code26 with
  | .seq _ x => x
  | _ => .skip
theorem cd_code26 : code26 = .seq c26_1 c26_2 := by kernel_rfl
noncomputable def r26_1 : Array Oper := regAt [0] body26
theorem cd_c26_1 : c26_1 = .region 0 r26_1 false := by kernel_rfl
noncomputable def c26_3 : Code := match c26_2 with
  | .seq x _ => x
  | _ => .skip
noncomputable def c26_4 : Code := match c26_2 with
  | .seq _ x => x
  | _ => .skip
theorem cd_c26_2 : c26_2 = .seq c26_3 c26_4 := by kernel_rfl
noncomputable def c26_5 : Code := match c26_3 with
  | .seq x _ => x
  | _ => .skip
noncomputable def c26_6 : Code := match c26_3 with
  | .seq _ x => x
  | _ => .skip
theorem cd_c26_3 : c26_3 = .seq c26_5 c26_6 := by kernel_rfl
noncomputable def r26_5 : Array Oper := regAt [1, 0, 0] body26
theorem cd_c26_5 : c26_5 = .region 1 r26_5 false := by kernel_rfl
noncomputable def c26_7 : Code := match c26_6 with
  | .cond _ x _ => x
  | _ => .skip
theorem cd_c26_6 : c26_6 = .cond (.tmp 4) c26_7 .skip := by kernel_rfl
noncomputable def c26_9 : Code := match c26_7 with
  | .seq x _ => x
  | _ => .skip
theorem cd_c26_7 : c26_7 = .seq c26_9 .ret := by kernel_rfl
noncomputable def r26_9 : Array Oper := regAt [1, 0, 1, 1, 0] body26
theorem cd_c26_9 : c26_9 = .region 2 r26_9 false := by kernel_rfl
noncomputable def c26_10 : Code := match c26_4 with
  | .seq x _ => x
  | _ => .skip
theorem cd_c26_4 : c26_4 = .seq c26_10 .ret := by kernel_rfl
noncomputable def r26_10 : Array Oper := regAt [1, 1, 0] body26
theorem cd_c26_10 : c26_10 = .region 3 r26_10 false := by kernel_rfl
noncomputable def body27 : Code := match Try.f27.body with
  | some c => c
  | none => .skip
noncomputable def c27_1 : Code := match code27 with
  | .seq x _ => x
  | _ => .skip
noncomputable def c27_2 : Code := match code27 with
  | .seq _ x => x
  | _ => .skip
theorem cd_code27 : code27 = .seq c27_1 c27_2 := by kernel_rfl
noncomputable def r27_1 : Array Oper := regAt [0] body27
theorem cd_c27_1 : c27_1 = .region 0 r27_1 false := by kernel_rfl
noncomputable def c27_3 : Code := match c27_2 with
  | .seq x _ => x
  | _ => .skip
noncomputable def c27_4 : Code := match c27_2 with
  | .seq _ x => x
  | _ => .skip
theorem cd_c27_2 : c27_2 = .seq c27_3 c27_4 := by kernel_rfl
noncomputable def c27_5 : Code := match c27_3 with
  | .seq x _ => x
  | _ => .skip
noncomputable def c27_6 : Code := match c27_3 with
  | .seq _ x => x
  | _ => .skip
theorem cd_c27_3 : c27_3 = .seq c27_5 c27_6 := by kernel_rfl
noncomputable def r27_5 : Array Oper := regAt [1, 0, 0] body27
theorem cd_c27_5 : c27_5 = .region 1 r27_5 false := by kernel_rfl
noncomputable def c27_7 : Code := match c27_6 with
  | .cond _ x _ => x
  | _ => .skip
theorem cd_c27_6 : c27_6 = .cond (.tmp 9) c27_7 .skip := by kernel_rfl
noncomputable def c27_9 : Code := match c27_7 with
  | .seq x _ => x
  | _ => .skip
theorem cd_c27_7 : c27_7 = .seq c27_9 .ret := by kernel_rfl
noncomputable def r27_9 : Array Oper := regAt [1, 0, 1, 1, 0] body27
theorem cd_c27_9 : c27_9 = .region 2 r27_9 false := by kernel_rfl
noncomputable def c27_10 : Code := match c27_4 with
  | .seq x _ => x
  | _ => .skip
theorem cd_c27_4 : c27_4 = .seq c27_10 .ret := by kernel_rfl
noncomputable def r27_10 : Array Oper := regAt [1, 1, 0] body27
theorem cd_c27_10 : c27_10 = .region 3 r27_10 false := by kernel_rfl
noncomputable def body28 : Code := match Try.f28.body with
  | some c => c
  | none => .skip
noncomputable def c28_1 : Code := match code28 with
  | .seq x _ => x
  | _ => .skip
noncomputable def c28_2 : Code := match code28 with
  | .seq _ x => x
  | _ => .skip
theorem cd_code28 : code28 = .seq c28_1 c28_2 := by kernel_rfl
noncomputable def r28_1 : Array Oper := regAt [0] body28
theorem cd_c28_1 : c28_1 = .region 0 r28_1 false := by kernel_rfl
noncomputable def c28_3 : Code := match c28_2 with
  | .seq x _ => x
  | _ => .skip
noncomputable def c28_4 : Code := match c28_2 with
  | .seq _ x => x
  | _ => .skip
theorem cd_c28_2 : c28_2 = .seq c28_3 c28_4 := by kernel_rfl
noncomputable def c28_5 : Code := match c28_3 with
  | .seq x _ => x
  | _ => .skip
noncomputable def c28_6 : Code := match c28_3 with
  | .seq _ x => x
  | _ => .skip
theorem cd_c28_3 : c28_3 = .seq c28_5 c28_6 := by kernel_rfl
noncomputable def r28_5 : Array Oper := regAt [1, 0, 0] body28
theorem cd_c28_5 : c28_5 = .region 1 r28_5 false := by kernel_rfl
noncomputable def c28_7 : Code := match c28_6 with
  | .cond _ x _ => x
  | _ => .skip
theorem cd_c28_6 : c28_6 = .cond (.tmp 6) c28_7 .skip := by kernel_rfl
noncomputable def c28_9 : Code := match c28_7 with
  | .seq x _ => x
  | _ => .skip
theorem cd_c28_7 : c28_7 = .seq c28_9 .ret := by kernel_rfl
noncomputable def r28_9 : Array Oper := regAt [1, 0, 1, 1, 0] body28
theorem cd_c28_9 : c28_9 = .region 2 r28_9 false := by kernel_rfl
noncomputable def c28_10 : Code := match c28_4 with
  | .seq x _ => x
  | _ => .skip
noncomputable def c28_11 : Code := match c28_4 with
  | .seq _ x => x
  | _ => .skip
theorem cd_c28_4 : c28_4 = .seq c28_10 c28_11 := by kernel_rfl
noncomputable def r28_10 : Array Oper := regAt [1, 1, 0] body28
theorem cd_c28_10 : c28_10 = .region 3 r28_10 false := by kernel_rfl
noncomputable def c28_12 : Code := match c28_11 with
  | .seq x _ => x
  | _ => .skip
noncomputable def c28_13 : Code := match c28_11 with
  | .seq _ x => x
  | _ => .skip
theorem cd_c28_11 : c28_11 = .seq c28_12 c28_13 := by kernel_rfl
noncomputable def r28_12 : Array Oper := regAt [1, 1, 1, 0] body28
theorem cd_c28_12 : c28_12 = .region 4 r28_12 true := by kernel_rfl
noncomputable def c28_14 : Code := match c28_13 with
  | .seq x _ => x
  | _ => .skip
noncomputable def c28_15 : Code := match c28_13 with
  | .seq _ x => x
  | _ => .skip
theorem cd_c28_13 : c28_13 = .seq c28_14 c28_15 := by kernel_rfl
noncomputable def c28_16 : Code := match c28_14 with
  | .seq x _ => x
  | _ => .skip
noncomputable def c28_17 : Code := match c28_14 with
  | .seq _ x => x
  | _ => .skip
theorem cd_c28_14 : c28_14 = .seq c28_16 c28_17 := by kernel_rfl
noncomputable def r28_16 : Array Oper := regAt [1, 1, 1, 1, 0, 0] body28
theorem cd_c28_16 : c28_16 = .region 5 r28_16 false := by kernel_rfl
noncomputable def c28_18 : Code := match c28_17 with
  | .cond _ x _ => x
  | _ => .skip
theorem cd_c28_17 : c28_17 = .cond (.tmp 34) c28_18 .skip := by kernel_rfl
noncomputable def c28_20 : Code := match c28_18 with
  | .seq x _ => x
  | _ => .skip
noncomputable def c28_21 : Code := match c28_18 with
  | .seq _ x => x
  | _ => .skip
theorem cd_c28_18 : c28_18 = .seq c28_20 c28_21 := by kernel_rfl
noncomputable def r28_20 : Array Oper := regAt [1, 1, 1, 1, 0, 1, 1, 0] body28
theorem cd_c28_20 : c28_20 = .region 6 r28_20 false := by kernel_rfl
noncomputable def r28_21 : Array Oper := regAt [1, 1, 1, 1, 0, 1, 1, 1] body28
theorem cd_c28_21 : c28_21 = .region 7 r28_21 false := by kernel_rfl
noncomputable def c28_22 : Code := match c28_15 with
  | .seq x _ => x
  | _ => .skip
theorem cd_c28_15 : c28_15 = .seq c28_22 .ret := by kernel_rfl
noncomputable def r28_22 : Array Oper := regAt [1, 1, 1, 1, 1, 0] body28
theorem cd_c28_22 : c28_22 = .region 8 r28_22 false := by kernel_rfl
noncomputable def body29 : Code := match Try.f29.body with
  | some c => c
  | none => .skip
noncomputable def c29_1 : Code := match code29 with
  | .seq x _ => x
  | _ => .skip
noncomputable def c29_2 : Code := match code29 with
  | .seq _ x => x
  | _ => .skip
theorem cd_code29 : code29 = .seq c29_1 c29_2 := by kernel_rfl
noncomputable def r29_1 : Array Oper := regAt [0] body29
theorem cd_c29_1 : c29_1 = .region 0 r29_1 false := by kernel_rfl
noncomputable def c29_3 : Code := match c29_2 with
  | .seq x _ => x
  | _ => .skip
noncomputable def c29_4 : Code := match c29_2 with
  | .seq _ x => x
  | _ => .skip
theorem cd_c29_2 : c29_2 = .seq c29_3 c29_4 := by kernel_rfl
noncomputable def c29_5 : Code := match c29_3 with
  | .seq x _ => x
  | _ => .skip
noncomputable def c29_6 : Code := match c29_3 with
  | .seq _ x => x
  | _ => .skip
theorem cd_c29_3 : c29_3 = .seq c29_5 c29_6 := by kernel_rfl
noncomputable def r29_5 : Array Oper := regAt [1, 0, 0] body29
theorem cd_c29_5 : c29_5 = .region 1 r29_5 false := by kernel_rfl
noncomputable def c29_7 : Code := match c29_6 with
  | .cond _ x _ => x
  | _ => .skip
theorem cd_c29_6 : c29_6 = .cond (.tmp 4) c29_7 .skip := by kernel_rfl
noncomputable def c29_9 : Code := match c29_7 with
  | .seq x _ => x
  | _ => .skip
theorem cd_c29_7 : c29_7 = .seq c29_9 .ret := by kernel_rfl
noncomputable def r29_9 : Array Oper := regAt [1, 0, 1, 1, 0] body29
theorem cd_c29_9 : c29_9 = .region 2 r29_9 false := by kernel_rfl
noncomputable def c29_10 : Code := match c29_4 with
  | .seq x _ => x
  | _ => .skip
noncomputable def c29_11 : Code := match c29_4 with
  | .seq _ x => x
  | _ => .skip
theorem cd_c29_4 : c29_4 = .seq c29_10 c29_11 := by kernel_rfl
noncomputable def r29_10 : Array Oper := regAt [1, 1, 0] body29
theorem cd_c29_10 : c29_10 = .region 3 r29_10 false := by kernel_rfl
noncomputable def c29_12 : Code := match c29_11 with
  | .seq x _ => x
  | _ => .skip
theorem cd_c29_11 : c29_11 = .seq c29_12 .ret := by kernel_rfl
noncomputable def r29_12 : Array Oper := regAt [1, 1, 1, 0] body29
theorem cd_c29_12 : c29_12 = .region 4 r29_12 false := by kernel_rfl
noncomputable def body30 : Code := match Try.f30.body with
  | some c => c
  | none => .skip
noncomputable def c30_1 : Code := match code30 with
  | .seq x _ => x
  | _ => .skip
noncomputable def c30_2 : Code := match code30 with
  | .seq _ x => x
  | _ => .skip
theorem cd_code30 : code30 = .seq c30_1 c30_2 := by kernel_rfl
noncomputable def r30_1 : Array Oper := regAt [0] body30
theorem cd_c30_1 : c30_1 = .region 0 r30_1 false := by kernel_rfl
noncomputable def c30_3 : Code := match c30_2 with
  | .seq x _ => x
  | _ => .skip
noncomputable def c30_4 : Code := match c30_2 with
  | .seq _ x => x
  | _ => .skip
theorem cd_c30_2 : c30_2 = .seq c30_3 c30_4 := by kernel_rfl
noncomputable def r30_3 : Array Oper := regAt [1, 0] body30
theorem cd_c30_3 : c30_3 = .region 1 r30_3 false := by kernel_rfl
noncomputable def c30_5 : Code := match c30_4 with
  | .seq x _ => x
  | _ => .skip
noncomputable def c30_6 : Code := match c30_4 with
  | .seq _ x => x
  | _ => .skip
theorem cd_c30_4 : c30_4 = .seq c30_5 c30_6 := by kernel_rfl
noncomputable def r30_5 : Array Oper := regAt [1, 1, 0] body30
theorem cd_c30_5 : c30_5 = .region 2 r30_5 false := by kernel_rfl
noncomputable def c30_7 : Code := match c30_6 with
  | .seq x _ => x
  | _ => .skip
noncomputable def c30_8 : Code := match c30_6 with
  | .seq _ x => x
  | _ => .skip
theorem cd_c30_6 : c30_6 = .seq c30_7 c30_8 := by kernel_rfl
noncomputable def c30_9 : Code := match c30_7 with
  | .seq x _ => x
  | _ => .skip
noncomputable def c30_10 : Code := match c30_7 with
  | .seq _ x => x
  | _ => .skip
theorem cd_c30_7 : c30_7 = .seq c30_9 c30_10 := by kernel_rfl
noncomputable def r30_9 : Array Oper := regAt [1, 1, 1, 0, 0] body30
theorem cd_c30_9 : c30_9 = .region 3 r30_9 false := by kernel_rfl
noncomputable def c30_11 : Code := match c30_10 with
  | .block _ x => x
  | _ => .skip
theorem cd_c30_10 : c30_10 = .block 0 c30_11 := by kernel_rfl
noncomputable def c30_12 : Code := match c30_11 with
  | .seq x _ => x
  | _ => .skip
noncomputable def c30_13 : Code := match c30_11 with
  | .seq _ x => x
  | _ => .skip
theorem cd_c30_11 : c30_11 = .seq c30_12 c30_13 := by kernel_rfl
noncomputable def c30_14 : Code := match c30_12 with
  | .seq x _ => x
  | _ => .skip
noncomputable def c30_15 : Code := match c30_12 with
  | .seq _ x => x
  | _ => .skip
theorem cd_c30_12 : c30_12 = .seq c30_14 c30_15 := by kernel_rfl
noncomputable def r30_14 : Array Oper := regAt [1, 1, 1, 0, 1, 1, 0, 0] body30
theorem cd_c30_14 : c30_14 = .region 4 r30_14 false := by kernel_rfl
noncomputable def c30_16 : Code := match c30_15 with
  | .cond _ _ x => x
  | _ => .skip
theorem cd_c30_15 : c30_15 = .cond (.tmp 15) .skip c30_16 := by kernel_rfl
noncomputable def r30_16 : Array Oper := regAt [1, 1, 1, 0, 1, 1, 0, 1, 2] body30
theorem cd_c30_16 : c30_16 = .region 5 r30_16 false := by kernel_rfl
noncomputable def c30_18 : Code := match c30_13 with
  | .cond _ x _ => x
  | _ => .skip
noncomputable def c30_19 : Code := match c30_13 with
  | .cond _ _ x => x
  | _ => .skip
theorem cd_c30_13 : c30_13 = .cond (.tmp 15) c30_18 c30_19 := by kernel_rfl
noncomputable def r30_18 : Array Oper := regAt [1, 1, 1, 0, 1, 1, 1, 1] body30
theorem cd_c30_18 : c30_18 = .region 6 r30_18 true := by kernel_rfl
noncomputable def c30_21 : Code := match c30_19 with
  | .seq x _ => x
  | _ => .skip
noncomputable def c30_22 : Code := match c30_19 with
  | .seq _ x => x
  | _ => .skip
theorem cd_c30_19 : c30_19 = .seq c30_21 c30_22 := by kernel_rfl
noncomputable def r30_21 : Array Oper := regAt [1, 1, 1, 0, 1, 1, 1, 2, 0] body30
theorem cd_c30_21 : c30_21 = .region 7 r30_21 false := by kernel_rfl
noncomputable def c30_23 : Code := match c30_22 with
  | .cond _ x _ => x
  | _ => .skip
noncomputable def c30_24 : Code := match c30_22 with
  | .cond _ _ x => x
  | _ => .skip
theorem cd_c30_22 : c30_22 = .cond (.tmp 26) c30_23 c30_24 := by kernel_rfl
noncomputable def r30_23 : Array Oper := regAt [1, 1, 1, 0, 1, 1, 1, 2, 1, 1] body30
theorem cd_c30_23 : c30_23 = .region 8 r30_23 false := by kernel_rfl
noncomputable def c30_26 : Code := match c30_24 with
  | .seq x _ => x
  | _ => .skip
noncomputable def c30_27 : Code := match c30_24 with
  | .seq _ x => x
  | _ => .skip
theorem cd_c30_24 : c30_24 = .seq c30_26 c30_27 := by kernel_rfl
noncomputable def r30_26 : Array Oper := regAt [1, 1, 1, 0, 1, 1, 1, 2, 1, 2, 0] body30
theorem cd_c30_26 : c30_26 = .region 9 r30_26 false := by kernel_rfl
noncomputable def c30_28 : Code := match c30_27 with
  | .cond _ x _ => x
  | _ => .skip
noncomputable def c30_29 : Code := match c30_27 with
  | .cond _ _ x => x
  | _ => .skip
theorem cd_c30_27 : c30_27 = .cond (.tmp 33) c30_28 c30_29 := by kernel_rfl
noncomputable def r30_28 : Array Oper := regAt [1, 1, 1, 0, 1, 1, 1, 2, 1, 2, 1, 1] body30
theorem cd_c30_28 : c30_28 = .region 10 r30_28 true := by kernel_rfl
noncomputable def c30_31 : Code := match c30_29 with
  | .seq x _ => x
  | _ => .skip
noncomputable def c30_32 : Code := match c30_29 with
  | .seq _ x => x
  | _ => .skip
theorem cd_c30_29 : c30_29 = .seq c30_31 c30_32 := by kernel_rfl
noncomputable def r30_31 : Array Oper := regAt [1, 1, 1, 0, 1, 1, 1, 2, 1, 2, 1, 2, 0] body30
theorem cd_c30_31 : c30_31 = .region 11 r30_31 false := by kernel_rfl
noncomputable def c30_33 : Code := match c30_32 with
  | .cond _ x _ => x
  | _ => .skip
noncomputable def c30_34 : Code := match c30_32 with
  | .cond _ _ x => x
  | _ => .skip
theorem cd_c30_32 : c30_32 = .cond (.tmp 43) c30_33 c30_34 := by kernel_rfl
noncomputable def r30_33 : Array Oper := regAt [1, 1, 1, 0, 1, 1, 1, 2, 1, 2, 1, 2, 1, 1] body30
theorem cd_c30_33 : c30_33 = .region 12 r30_33 false := by kernel_rfl
noncomputable def c30_36 : Code := match c30_34 with
  | .seq x _ => x
  | _ => .skip
noncomputable def c30_37 : Code := match c30_34 with
  | .seq _ x => x
  | _ => .skip
theorem cd_c30_34 : c30_34 = .seq c30_36 c30_37 := by kernel_rfl
noncomputable def r30_36 : Array Oper := regAt [1, 1, 1, 0, 1, 1, 1, 2, 1, 2, 1, 2, 1, 2, 0] body30
theorem cd_c30_36 : c30_36 = .region 13 r30_36 false := by kernel_rfl
noncomputable def c30_38 : Code := match c30_37 with
  | .cond _ x _ => x
  | _ => .skip
noncomputable def c30_39 : Code := match c30_37 with
  | .cond _ _ x => x
  | _ => .skip
theorem cd_c30_37 : c30_37 = .cond (.tmp 50) c30_38 c30_39 := by kernel_rfl
noncomputable def r30_38 : Array Oper := regAt [1, 1, 1, 0, 1, 1, 1, 2, 1, 2, 1, 2, 1, 2, 1, 1] body30
theorem cd_c30_38 : c30_38 = .region 14 r30_38 true := by kernel_rfl
noncomputable def c30_41 : Code := match c30_39 with
  | .seq x _ => x
  | _ => .skip
noncomputable def c30_42 : Code := match c30_39 with
  | .seq _ x => x
  | _ => .skip
theorem cd_c30_39 : c30_39 = .seq c30_41 c30_42 := by kernel_rfl
noncomputable def r30_41 : Array Oper := regAt [1, 1, 1, 0, 1, 1, 1, 2, 1, 2, 1, 2, 1, 2, 1, 2, 0] body30
theorem cd_c30_41 : c30_41 = .region 15 r30_41 false := by kernel_rfl
noncomputable def c30_43 : Code := match c30_42 with
  | .cond _ x _ => x
  | _ => .skip
noncomputable def c30_44 : Code := match c30_42 with
  | .cond _ _ x => x
  | _ => .skip
theorem cd_c30_42 : c30_42 = .cond (.tmp 61) c30_43 c30_44 := by kernel_rfl
noncomputable def r30_43 : Array Oper := regAt [1, 1, 1, 0, 1, 1, 1, 2, 1, 2, 1, 2, 1, 2, 1, 2, 1, 1] body30
theorem cd_c30_43 : c30_43 = .region 16 r30_43 true := by kernel_rfl
noncomputable def c30_46 : Code := match c30_44 with
  | .seq x _ => x
  | _ => .skip
noncomputable def c30_47 : Code := match c30_44 with
  | .seq _ x => x
  | _ => .skip
theorem cd_c30_44 : c30_44 = .seq c30_46 c30_47 := by kernel_rfl
noncomputable def r30_46 : Array Oper := regAt [1, 1, 1, 0, 1, 1, 1, 2, 1, 2, 1, 2, 1, 2, 1, 2, 1, 2, 0] body30
theorem cd_c30_46 : c30_46 = .region 17 r30_46 false := by kernel_rfl
noncomputable def c30_48 : Code := match c30_47 with
  | .cond _ x _ => x
  | _ => .skip
noncomputable def c30_49 : Code := match c30_47 with
  | .cond _ _ x => x
  | _ => .skip
theorem cd_c30_47 : c30_47 = .cond (.tmp 72) c30_48 c30_49 := by kernel_rfl
noncomputable def r30_48 : Array Oper := regAt [1, 1, 1, 0, 1, 1, 1, 2, 1, 2, 1, 2, 1, 2, 1, 2, 1, 2, 1, 1] body30
theorem cd_c30_48 : c30_48 = .region 18 r30_48 true := by kernel_rfl
noncomputable def c30_51 : Code := match c30_49 with
  | .seq x _ => x
  | _ => .skip
noncomputable def c30_52 : Code := match c30_49 with
  | .seq _ x => x
  | _ => .skip
theorem cd_c30_49 : c30_49 = .seq c30_51 c30_52 := by kernel_rfl
noncomputable def r30_51 : Array Oper := regAt [1, 1, 1, 0, 1, 1, 1, 2, 1, 2, 1, 2, 1, 2, 1, 2, 1, 2, 1, 2, 0] body30
theorem cd_c30_51 : c30_51 = .region 19 r30_51 false := by kernel_rfl
noncomputable def c30_53 : Code := match c30_52 with
  | .cond _ x _ => x
  | _ => .skip
theorem cd_c30_52 : c30_52 = .cond (.tmp 83) c30_53 .skip := by kernel_rfl
noncomputable def r30_53 : Array Oper := regAt [1, 1, 1, 0, 1, 1, 1, 2, 1, 2, 1, 2, 1, 2, 1, 2, 1, 2, 1, 2, 1, 1] body30
theorem cd_c30_53 : c30_53 = .region 20 r30_53 false := by kernel_rfl
noncomputable def c30_55 : Code := match c30_8 with
  | .seq x _ => x
  | _ => .skip
noncomputable def c30_56 : Code := match c30_8 with
  | .seq _ x => x
  | _ => .skip
theorem cd_c30_8 : c30_8 = .seq c30_55 c30_56 := by kernel_rfl
noncomputable def r30_55 : Array Oper := regAt [1, 1, 1, 1, 0] body30
theorem cd_c30_55 : c30_55 = .region 21 r30_55 false := by kernel_rfl
noncomputable def c30_57 : Code := match c30_56 with
  | .seq x _ => x
  | _ => .skip
noncomputable def c30_58 : Code := match c30_56 with
  | .seq _ x => x
  | _ => .skip
theorem cd_c30_56 : c30_56 = .seq c30_57 c30_58 := by kernel_rfl
noncomputable def r30_57 : Array Oper := regAt [1, 1, 1, 1, 1, 0] body30
theorem cd_c30_57 : c30_57 = .region 22 r30_57 false := by kernel_rfl
noncomputable def c30_59 : Code := match c30_58 with
  | .seq x _ => x
  | _ => .skip
theorem cd_c30_58 : c30_58 = .seq c30_59 .ret := by kernel_rfl
noncomputable def r30_59 : Array Oper := regAt [1, 1, 1, 1, 1, 1, 0] body30
theorem cd_c30_59 : c30_59 = .region 23 r30_59 false := by kernel_rfl
noncomputable def body31 : Code := match Try.f31.body with
  | some c => c
  | none => .skip
noncomputable def c31_1 : Code := match code31 with
  | .seq x _ => x
  | _ => .skip
noncomputable def c31_2 : Code := match code31 with
  | .seq _ x => x
  | _ => .skip
theorem cd_code31 : code31 = .seq c31_1 c31_2 := by kernel_rfl
noncomputable def r31_1 : Array Oper := regAt [0] body31
theorem cd_c31_1 : c31_1 = .region 0 r31_1 false := by kernel_rfl
noncomputable def c31_3 : Code := match c31_2 with
  | .seq x _ => x
  | _ => .skip
noncomputable def c31_4 : Code := match c31_2 with
  | .seq _ x => x
  | _ => .skip
theorem cd_c31_2 : c31_2 = .seq c31_3 c31_4 := by kernel_rfl
noncomputable def r31_3 : Array Oper := regAt [1, 0] body31
theorem cd_c31_3 : c31_3 = .region 1 r31_3 false := by kernel_rfl
noncomputable def c31_5 : Code := match c31_4 with
  | .seq x _ => x
  | _ => .skip
noncomputable def c31_6 : Code := match c31_4 with
  | .seq _ x => x
  | _ => .skip
theorem cd_c31_4 : c31_4 = .seq c31_5 c31_6 := by kernel_rfl
noncomputable def r31_5 : Array Oper := regAt [1, 1, 0] body31
theorem cd_c31_5 : c31_5 = .region 2 r31_5 false := by kernel_rfl
noncomputable def c31_7 : Code := match c31_6 with
  | .seq x _ => x
  | _ => .skip
noncomputable def c31_8 : Code := match c31_6 with
  | .seq _ x => x
  | _ => .skip
theorem cd_c31_6 : c31_6 = .seq c31_7 c31_8 := by kernel_rfl
noncomputable def r31_7 : Array Oper := regAt [1, 1, 1, 0] body31
theorem cd_c31_7 : c31_7 = .region 3 r31_7 true := by kernel_rfl
noncomputable def c31_9 : Code := match c31_8 with
  | .seq x _ => x
  | _ => .skip
noncomputable def c31_10 : Code := match c31_8 with
  | .seq _ x => x
  | _ => .skip
theorem cd_c31_8 : c31_8 = .seq c31_9 c31_10 := by kernel_rfl
noncomputable def r31_9 : Array Oper := regAt [1, 1, 1, 1, 0] body31
theorem cd_c31_9 : c31_9 = .region 4 r31_9 false := by kernel_rfl
noncomputable def c31_11 : Code := match c31_10 with
  | .seq x _ => x
  | _ => .skip
theorem cd_c31_10 : c31_10 = .seq c31_11 .ret := by kernel_rfl
noncomputable def r31_11 : Array Oper := regAt [1, 1, 1, 1, 1, 0] body31
theorem cd_c31_11 : c31_11 = .region 5 r31_11 false := by kernel_rfl
noncomputable def body32 : Code := match Try.f32.body with
  | some c => c
  | none => .skip
noncomputable def c32_1 : Code := match code32 with
  | .seq x _ => x
  | _ => .skip
noncomputable def c32_2 : Code := match code32 with
  | .seq _ x => x
  | _ => .skip
theorem cd_code32 : code32 = .seq c32_1 c32_2 := by kernel_rfl
noncomputable def r32_1 : Array Oper := regAt [0] body32
theorem cd_c32_1 : c32_1 = .region 0 r32_1 false := by kernel_rfl
noncomputable def c32_3 : Code := match c32_2 with
  | .seq x _ => x
  | _ => .skip
noncomputable def c32_4 : Code := match c32_2 with
  | .seq _ x => x
  | _ => .skip
theorem cd_c32_2 : c32_2 = .seq c32_3 c32_4 := by kernel_rfl
noncomputable def c32_5 : Code := match c32_3 with
  | .seq x _ => x
  | _ => .skip
noncomputable def c32_6 : Code := match c32_3 with
  | .seq _ x => x
  | _ => .skip
theorem cd_c32_3 : c32_3 = .seq c32_5 c32_6 := by kernel_rfl
noncomputable def r32_5 : Array Oper := regAt [1, 0, 0] body32
theorem cd_c32_5 : c32_5 = .region 1 r32_5 false := by kernel_rfl
noncomputable def c32_7 : Code := match c32_6 with
  | .cond _ x _ => x
  | _ => .skip
theorem cd_c32_6 : c32_6 = .cond (.tmp 4) c32_7 .skip := by kernel_rfl
noncomputable def c32_9 : Code := match c32_7 with
  | .seq x _ => x
  | _ => .skip
theorem cd_c32_7 : c32_7 = .seq c32_9 .ret := by kernel_rfl
noncomputable def r32_9 : Array Oper := regAt [1, 0, 1, 1, 0] body32
theorem cd_c32_9 : c32_9 = .region 2 r32_9 false := by kernel_rfl
noncomputable def c32_10 : Code := match c32_4 with
  | .seq x _ => x
  | _ => .skip
theorem cd_c32_4 : c32_4 = .seq c32_10 .ret := by kernel_rfl
noncomputable def r32_10 : Array Oper := regAt [1, 1, 0] body32
theorem cd_c32_10 : c32_10 = .region 3 r32_10 false := by kernel_rfl
noncomputable def body33 : Code := match Try.f33.body with
  | some c => c
  | none => .skip
noncomputable def c33_1 : Code := match code33 with
  | .seq x _ => x
  | _ => .skip
noncomputable def c33_2 : Code := match code33 with
  | .seq _ x => x
  | _ => .skip
theorem cd_code33 : code33 = .seq c33_1 c33_2 := by kernel_rfl
noncomputable def r33_1 : Array Oper := regAt [0] body33
theorem cd_c33_1 : c33_1 = .region 0 r33_1 false := by kernel_rfl
noncomputable def c33_3 : Code := match c33_2 with
  | .seq x _ => x
  | _ => .skip
noncomputable def c33_4 : Code := match c33_2 with
  | .seq _ x => x
  | _ => .skip
theorem cd_c33_2 : c33_2 = .seq c33_3 c33_4 := by kernel_rfl
noncomputable def c33_5 : Code := match c33_3 with
  | .block _ x => x
  | _ => .skip
theorem cd_c33_3 : c33_3 = .block 0 c33_5 := by kernel_rfl
noncomputable def c33_6 : Code := match c33_5 with
  | .seq x _ => x
  | _ => .skip
noncomputable def c33_7 : Code := match c33_5 with
  | .seq _ x => x
  | _ => .skip
theorem cd_c33_5 : c33_5 = .seq c33_6 c33_7 := by kernel_rfl
noncomputable def r33_6 : Array Oper := regAt [1, 0, 1, 0] body33
theorem cd_c33_6 : c33_6 = .region 1 r33_6 false := by kernel_rfl
noncomputable def c33_8 : Code := match c33_7 with
  | .cond _ x _ => x
  | _ => .skip
noncomputable def c33_9 : Code := match c33_7 with
  | .cond _ _ x => x
  | _ => .skip
theorem cd_c33_7 : c33_7 = .cond (.tmp 5) c33_8 c33_9 := by kernel_rfl
noncomputable def c33_11 : Code := match c33_8 with
  | .seq x _ => x
  | _ => .skip
theorem cd_c33_8 : c33_8 = .seq c33_11 .ret := by kernel_rfl
noncomputable def r33_11 : Array Oper := regAt [1, 0, 1, 1, 1, 0] body33
theorem cd_c33_11 : c33_11 = .region 2 r33_11 false := by kernel_rfl
noncomputable def c33_12 : Code := match c33_9 with
  | .seq x _ => x
  | _ => .skip
noncomputable def c33_13 : Code := match c33_9 with
  | .seq _ x => x
  | _ => .skip
theorem cd_c33_9 : c33_9 = .seq c33_12 c33_13 := by kernel_rfl
noncomputable def r33_12 : Array Oper := regAt [1, 0, 1, 1, 2, 0] body33
theorem cd_c33_12 : c33_12 = .region 3 r33_12 false := by kernel_rfl
noncomputable def c33_14 : Code := match c33_13 with
  | .cond _ x _ => x
  | _ => .skip
theorem cd_c33_13 : c33_13 = .cond (.tmp 8) c33_14 .skip := by kernel_rfl
noncomputable def c33_16 : Code := match c33_14 with
  | .seq x _ => x
  | _ => .skip
theorem cd_c33_14 : c33_14 = .seq c33_16 .ret := by kernel_rfl
noncomputable def r33_16 : Array Oper := regAt [1, 0, 1, 1, 2, 1, 1, 0] body33
theorem cd_c33_16 : c33_16 = .region 4 r33_16 false := by kernel_rfl
noncomputable def c33_17 : Code := match c33_4 with
  | .seq x _ => x
  | _ => .skip
noncomputable def c33_18 : Code := match c33_4 with
  | .seq _ x => x
  | _ => .skip
theorem cd_c33_4 : c33_4 = .seq c33_17 c33_18 := by kernel_rfl
noncomputable def r33_17 : Array Oper := regAt [1, 1, 0] body33
theorem cd_c33_17 : c33_17 = .region 5 r33_17 false := by kernel_rfl
noncomputable def c33_19 : Code := match c33_18 with
  | .seq x _ => x
  | _ => .skip
theorem cd_c33_18 : c33_18 = .seq c33_19 .ret := by kernel_rfl
noncomputable def r33_19 : Array Oper := regAt [1, 1, 1, 0] body33
theorem cd_c33_19 : c33_19 = .region 6 r33_19 false := by kernel_rfl
noncomputable def body34 : Code := match Try.f34.body with
  | some c => c
  | none => .skip
noncomputable def c34_1 : Code := match code34 with
  | .seq x _ => x
  | _ => .skip
noncomputable def c34_2 : Code := match code34 with
  | .seq _ x => x
  | _ => .skip
theorem cd_code34 : code34 = .seq c34_1 c34_2 := by kernel_rfl
noncomputable def r34_1 : Array Oper := regAt [0] body34
theorem cd_c34_1 : c34_1 = .region 0 r34_1 false := by kernel_rfl
noncomputable def c34_3 : Code := match c34_2 with
  | .seq x _ => x
  | _ => .skip
theorem cd_c34_2 : c34_2 = .seq c34_3 .ret := by kernel_rfl
noncomputable def r34_3 : Array Oper := regAt [1, 0] body34
theorem cd_c34_3 : c34_3 = .region 1 r34_3 false := by kernel_rfl
noncomputable def body35 : Code := match Try.f35.body with
  | some c => c
  | none => .skip
noncomputable def c35_1 : Code := match code35 with
  | .seq x _ => x
  | _ => .skip
noncomputable def c35_2 : Code := match code35 with
  | .seq _ x => x
  | _ => .skip
theorem cd_code35 : code35 = .seq c35_1 c35_2 := by kernel_rfl
noncomputable def r35_1 : Array Oper := regAt [0] body35
theorem cd_c35_1 : c35_1 = .region 0 r35_1 false := by kernel_rfl
noncomputable def c35_3 : Code := match c35_2 with
  | .seq x _ => x
  | _ => .skip
noncomputable def c35_4 : Code := match c35_2 with
  | .seq _ x => x
  | _ => .skip
theorem cd_c35_2 : c35_2 = .seq c35_3 c35_4 := by kernel_rfl
noncomputable def c35_5 : Code := match c35_3 with
  | .block _ x => x
  | _ => .skip
theorem cd_c35_3 : c35_3 = .block 0 c35_5 := by kernel_rfl
noncomputable def c35_6 : Code := match c35_5 with
  | .seq x _ => x
  | _ => .skip
noncomputable def c35_7 : Code := match c35_5 with
  | .seq _ x => x
  | _ => .skip
theorem cd_c35_5 : c35_5 = .seq c35_6 c35_7 := by kernel_rfl
noncomputable def r35_6 : Array Oper := regAt [1, 0, 1, 0] body35
theorem cd_c35_6 : c35_6 = .region 1 r35_6 false := by kernel_rfl
noncomputable def c35_8 : Code := match c35_7 with
  | .cond _ x _ => x
  | _ => .skip
noncomputable def c35_9 : Code := match c35_7 with
  | .cond _ _ x => x
  | _ => .skip
theorem cd_c35_7 : c35_7 = .cond (.tmp 7) c35_8 c35_9 := by kernel_rfl
noncomputable def c35_11 : Code := match c35_8 with
  | .seq x _ => x
  | _ => .skip
theorem cd_c35_8 : c35_8 = .seq c35_11 .ret := by kernel_rfl
noncomputable def r35_11 : Array Oper := regAt [1, 0, 1, 1, 1, 0] body35
theorem cd_c35_11 : c35_11 = .region 2 r35_11 false := by kernel_rfl
noncomputable def c35_12 : Code := match c35_9 with
  | .seq x _ => x
  | _ => .skip
noncomputable def c35_13 : Code := match c35_9 with
  | .seq _ x => x
  | _ => .skip
theorem cd_c35_9 : c35_9 = .seq c35_12 c35_13 := by kernel_rfl
noncomputable def r35_12 : Array Oper := regAt [1, 0, 1, 1, 2, 0] body35
theorem cd_c35_12 : c35_12 = .region 3 r35_12 false := by kernel_rfl
noncomputable def c35_14 : Code := match c35_13 with
  | .cond _ x _ => x
  | _ => .skip
noncomputable def c35_15 : Code := match c35_13 with
  | .cond _ _ x => x
  | _ => .skip
theorem cd_c35_13 : c35_13 = .cond (.tmp 10) c35_14 c35_15 := by kernel_rfl
noncomputable def c35_17 : Code := match c35_14 with
  | .seq x _ => x
  | _ => .skip
theorem cd_c35_14 : c35_14 = .seq c35_17 .ret := by kernel_rfl
noncomputable def r35_17 : Array Oper := regAt [1, 0, 1, 1, 2, 1, 1, 0] body35
theorem cd_c35_17 : c35_17 = .region 4 r35_17 false := by kernel_rfl
noncomputable def c35_18 : Code := match c35_15 with
  | .seq x _ => x
  | _ => .skip
noncomputable def c35_19 : Code := match c35_15 with
  | .seq _ x => x
  | _ => .skip
theorem cd_c35_15 : c35_15 = .seq c35_18 c35_19 := by kernel_rfl
noncomputable def r35_18 : Array Oper := regAt [1, 0, 1, 1, 2, 1, 2, 0] body35
theorem cd_c35_18 : c35_18 = .region 5 r35_18 true := by kernel_rfl
noncomputable def c35_20 : Code := match c35_19 with
  | .cond _ x _ => x
  | _ => .skip
theorem cd_c35_19 : c35_19 = .cond (.tmp 15) c35_20 .skip := by kernel_rfl
noncomputable def c35_22 : Code := match c35_20 with
  | .seq x _ => x
  | _ => .skip
theorem cd_c35_20 : c35_20 = .seq c35_22 .ret := by kernel_rfl
noncomputable def r35_22 : Array Oper := regAt [1, 0, 1, 1, 2, 1, 2, 1, 1, 0] body35
theorem cd_c35_22 : c35_22 = .region 6 r35_22 false := by kernel_rfl
noncomputable def c35_23 : Code := match c35_4 with
  | .seq x _ => x
  | _ => .skip
theorem cd_c35_4 : c35_4 = .seq c35_23 .ret := by kernel_rfl
noncomputable def r35_23 : Array Oper := regAt [1, 1, 0] body35
theorem cd_c35_23 : c35_23 = .region 7 r35_23 false := by kernel_rfl
noncomputable def body36 : Code := match Try.f36.body with
  | some c => c
  | none => .skip
noncomputable def c36_1 : Code := match code36 with
  | .seq x _ => x
  | _ => .skip
noncomputable def c36_2 : Code := match code36 with
  | .seq _ x => x
  | _ => .skip
theorem cd_code36 : code36 = .seq c36_1 c36_2 := by kernel_rfl
noncomputable def r36_1 : Array Oper := regAt [0] body36
theorem cd_c36_1 : c36_1 = .region 0 r36_1 false := by kernel_rfl
noncomputable def c36_3 : Code := match c36_2 with
  | .seq x _ => x
  | _ => .skip
noncomputable def c36_4 : Code := match c36_2 with
  | .seq _ x => x
  | _ => .skip
theorem cd_c36_2 : c36_2 = .seq c36_3 c36_4 := by kernel_rfl
noncomputable def c36_5 : Code := match c36_3 with
  | .block _ x => x
  | _ => .skip
theorem cd_c36_3 : c36_3 = .block 0 c36_5 := by kernel_rfl
noncomputable def c36_6 : Code := match c36_5 with
  | .seq x _ => x
  | _ => .skip
noncomputable def c36_7 : Code := match c36_5 with
  | .seq _ x => x
  | _ => .skip
theorem cd_c36_5 : c36_5 = .seq c36_6 c36_7 := by kernel_rfl
noncomputable def r36_6 : Array Oper := regAt [1, 0, 1, 0] body36
theorem cd_c36_6 : c36_6 = .region 1 r36_6 false := by kernel_rfl
noncomputable def c36_8 : Code := match c36_7 with
  | .cond _ x _ => x
  | _ => .skip
noncomputable def c36_9 : Code := match c36_7 with
  | .cond _ _ x => x
  | _ => .skip
theorem cd_c36_7 : c36_7 = .cond (.tmp 5) c36_8 c36_9 := by kernel_rfl
noncomputable def c36_11 : Code := match c36_8 with
  | .seq x _ => x
  | _ => .skip
theorem cd_c36_8 : c36_8 = .seq c36_11 .ret := by kernel_rfl
noncomputable def r36_11 : Array Oper := regAt [1, 0, 1, 1, 1, 0] body36
theorem cd_c36_11 : c36_11 = .region 2 r36_11 false := by kernel_rfl
noncomputable def c36_12 : Code := match c36_9 with
  | .seq x _ => x
  | _ => .skip
noncomputable def c36_13 : Code := match c36_9 with
  | .seq _ x => x
  | _ => .skip
theorem cd_c36_9 : c36_9 = .seq c36_12 c36_13 := by kernel_rfl
noncomputable def r36_12 : Array Oper := regAt [1, 0, 1, 1, 2, 0] body36
theorem cd_c36_12 : c36_12 = .region 3 r36_12 false := by kernel_rfl
noncomputable def c36_14 : Code := match c36_13 with
  | .cond _ x _ => x
  | _ => .skip
theorem cd_c36_13 : c36_13 = .cond (.tmp 8) c36_14 .skip := by kernel_rfl
noncomputable def c36_16 : Code := match c36_14 with
  | .seq x _ => x
  | _ => .skip
theorem cd_c36_14 : c36_14 = .seq c36_16 .ret := by kernel_rfl
noncomputable def r36_16 : Array Oper := regAt [1, 0, 1, 1, 2, 1, 1, 0] body36
theorem cd_c36_16 : c36_16 = .region 4 r36_16 false := by kernel_rfl
noncomputable def c36_17 : Code := match c36_4 with
  | .seq x _ => x
  | _ => .skip
theorem cd_c36_4 : c36_4 = .seq c36_17 .ret := by kernel_rfl
noncomputable def r36_17 : Array Oper := regAt [1, 1, 0] body36
theorem cd_c36_17 : c36_17 = .region 5 r36_17 false := by kernel_rfl
noncomputable def body37 : Code := match Try.f37.body with
  | some c => c
  | none => .skip
noncomputable def r37 : Array Oper := regAt [] body37
theorem cd_code37 : code37 = .region 0 r37 false := by kernel_rfl
noncomputable def body38 : Code := match Try.f38.body with
  | some c => c
  | none => .skip
noncomputable def c38_1 : Code := match code38 with
  | .seq x _ => x
  | _ => .skip
noncomputable def c38_2 : Code := match code38 with
  | .seq _ x => x
  | _ => .skip
theorem cd_code38 : code38 = .seq c38_1 c38_2 := by kernel_rfl
noncomputable def r38_1 : Array Oper := regAt [0] body38
theorem cd_c38_1 : c38_1 = .region 0 r38_1 false := by kernel_rfl
noncomputable def r38_2 : Array Oper := regAt [1] body38
theorem cd_c38_2 : c38_2 = .region 1 r38_2 false := by kernel_rfl
noncomputable def body39 : Code := match Try.f39.body with
  | some c => c
  | none => .skip
noncomputable def c39_1 : Code := match code39 with
  | .seq x _ => x
  | _ => .skip
noncomputable def c39_2 : Code := match code39 with
  | .seq _ x => x
  | _ => .skip
theorem cd_code39 : code39 = .seq c39_1 c39_2 := by kernel_rfl
noncomputable def r39_1 : Array Oper := regAt [0] body39
theorem cd_c39_1 : c39_1 = .region 0 r39_1 false := by kernel_rfl
noncomputable def c39_3 : Code := match c39_2 with
  | .seq x _ => x
  | _ => .skip
noncomputable def c39_4 : Code := match c39_2 with
  | .seq _ x => x
  | _ => .skip
theorem cd_c39_2 : c39_2 = .seq c39_3 c39_4 := by kernel_rfl
noncomputable def c39_5 : Code := match c39_3 with
  | .seq x _ => x
  | _ => .skip
noncomputable def c39_6 : Code := match c39_3 with
  | .seq _ x => x
  | _ => .skip
theorem cd_c39_3 : c39_3 = .seq c39_5 c39_6 := by kernel_rfl
noncomputable def r39_5 : Array Oper := regAt [1, 0, 0] body39
theorem cd_c39_5 : c39_5 = .region 1 r39_5 false := by kernel_rfl
noncomputable def c39_7 : Code := match c39_6 with
  | .cond _ x _ => x
  | _ => .skip
theorem cd_c39_6 : c39_6 = .cond (.tmp 4) c39_7 .skip := by kernel_rfl
noncomputable def c39_9 : Code := match c39_7 with
  | .seq x _ => x
  | _ => .skip
theorem cd_c39_7 : c39_7 = .seq c39_9 .ret := by kernel_rfl
noncomputable def r39_9 : Array Oper := regAt [1, 0, 1, 1, 0] body39
theorem cd_c39_9 : c39_9 = .region 2 r39_9 false := by kernel_rfl
noncomputable def c39_10 : Code := match c39_4 with
  | .seq x _ => x
  | _ => .skip
theorem cd_c39_4 : c39_4 = .seq c39_10 .ret := by kernel_rfl
noncomputable def r39_10 : Array Oper := regAt [1, 1, 0] body39
theorem cd_c39_10 : c39_10 = .region 3 r39_10 false := by kernel_rfl
noncomputable def body40 : Code := match Try.f40.body with
  | some c => c
  | none => .skip
noncomputable def c40_1 : Code := match code40 with
  | .seq x _ => x
  | _ => .skip
noncomputable def c40_2 : Code := match code40 with
  | .seq _ x => x
  | _ => .skip
theorem cd_code40 : code40 = .seq c40_1 c40_2 := by kernel_rfl
noncomputable def r40_1 : Array Oper := regAt [0] body40
theorem cd_c40_1 : c40_1 = .region 0 r40_1 false := by kernel_rfl
noncomputable def c40_3 : Code := match c40_2 with
  | .seq x _ => x
  | _ => .skip
noncomputable def c40_4 : Code := match c40_2 with
  | .seq _ x => x
  | _ => .skip
theorem cd_c40_2 : c40_2 = .seq c40_3 c40_4 := by kernel_rfl
noncomputable def r40_3 : Array Oper := regAt [1, 0] body40
theorem cd_c40_3 : c40_3 = .region 1 r40_3 false := by kernel_rfl
noncomputable def c40_5 : Code := match c40_4 with
  | .seq x _ => x
  | _ => .skip
noncomputable def c40_6 : Code := match c40_4 with
  | .seq _ x => x
  | _ => .skip
theorem cd_c40_4 : c40_4 = .seq c40_5 c40_6 := by kernel_rfl
noncomputable def r40_5 : Array Oper := regAt [1, 1, 0] body40
theorem cd_c40_5 : c40_5 = .region 2 r40_5 false := by kernel_rfl
noncomputable def c40_7 : Code := match c40_6 with
  | .seq x _ => x
  | _ => .skip
theorem cd_c40_6 : c40_6 = .seq c40_7 .ret := by kernel_rfl
noncomputable def r40_7 : Array Oper := regAt [1, 1, 1, 0] body40
theorem cd_c40_7 : c40_7 = .region 3 r40_7 false := by kernel_rfl
noncomputable def body41 : Code := match Try.f41.body with
  | some c => c
  | none => .skip
noncomputable def c41_1 : Code := match code41 with
  | .seq x _ => x
  | _ => .skip
noncomputable def c41_2 : Code := match code41 with
  | .seq _ x => x
  | _ => .skip
theorem cd_code41 : code41 = .seq c41_1 c41_2 := by kernel_rfl
noncomputable def r41_1 : Array Oper := regAt [0] body41
theorem cd_c41_1 : c41_1 = .region 0 r41_1 false := by kernel_rfl
noncomputable def c41_3 : Code := match c41_2 with
  | .seq x _ => x
  | _ => .skip
noncomputable def c41_4 : Code := match c41_2 with
  | .seq _ x => x
  | _ => .skip
theorem cd_c41_2 : c41_2 = .seq c41_3 c41_4 := by kernel_rfl
noncomputable def r41_3 : Array Oper := regAt [1, 0] body41
theorem cd_c41_3 : c41_3 = .region 1 r41_3 false := by kernel_rfl
noncomputable def c41_5 : Code := match c41_4 with
  | .seq x _ => x
  | _ => .skip
noncomputable def c41_6 : Code := match c41_4 with
  | .seq _ x => x
  | _ => .skip
theorem cd_c41_4 : c41_4 = .seq c41_5 c41_6 := by kernel_rfl
noncomputable def c41_7 : Code := match c41_5 with
  | .seq x _ => x
  | _ => .skip
noncomputable def c41_8 : Code := match c41_5 with
  | .seq _ x => x
  | _ => .skip
theorem cd_c41_5 : c41_5 = .seq c41_7 c41_8 := by kernel_rfl
noncomputable def r41_7 : Array Oper := regAt [1, 1, 0, 0] body41
theorem cd_c41_7 : c41_7 = .region 2 r41_7 false := by kernel_rfl
noncomputable def c41_9 : Code := match c41_8 with
  | .cond _ x _ => x
  | _ => .skip
theorem cd_c41_8 : c41_8 = .cond (.tmp 11) c41_9 .skip := by kernel_rfl
noncomputable def c41_11 : Code := match c41_9 with
  | .seq x _ => x
  | _ => .skip
theorem cd_c41_9 : c41_9 = .seq c41_11 .ret := by kernel_rfl
noncomputable def r41_11 : Array Oper := regAt [1, 1, 0, 1, 1, 0] body41
theorem cd_c41_11 : c41_11 = .region 3 r41_11 false := by kernel_rfl
noncomputable def c41_12 : Code := match c41_6 with
  | .seq x _ => x
  | _ => .skip
noncomputable def c41_13 : Code := match c41_6 with
  | .seq _ x => x
  | _ => .skip
theorem cd_c41_6 : c41_6 = .seq c41_12 c41_13 := by kernel_rfl
noncomputable def r41_12 : Array Oper := regAt [1, 1, 1, 0] body41
theorem cd_c41_12 : c41_12 = .region 4 r41_12 false := by kernel_rfl
noncomputable def c41_14 : Code := match c41_13 with
  | .seq x _ => x
  | _ => .skip
noncomputable def c41_15 : Code := match c41_13 with
  | .seq _ x => x
  | _ => .skip
theorem cd_c41_13 : c41_13 = .seq c41_14 c41_15 := by kernel_rfl
noncomputable def r41_14 : Array Oper := regAt [1, 1, 1, 1, 0] body41
theorem cd_c41_14 : c41_14 = .region 5 r41_14 false := by kernel_rfl
noncomputable def c41_16 : Code := match c41_15 with
  | .seq x _ => x
  | _ => .skip
theorem cd_c41_15 : c41_15 = .seq c41_16 .ret := by kernel_rfl
noncomputable def r41_16 : Array Oper := regAt [1, 1, 1, 1, 1, 0] body41
theorem cd_c41_16 : c41_16 = .region 6 r41_16 false := by kernel_rfl
noncomputable def body42 : Code := match Try.f42.body with
  | some c => c
  | none => .skip
noncomputable def c42_1 : Code := match code42 with
  | .seq x _ => x
  | _ => .skip
noncomputable def c42_2 : Code := match code42 with
  | .seq _ x => x
  | _ => .skip
theorem cd_code42 : code42 = .seq c42_1 c42_2 := by kernel_rfl
noncomputable def r42_1 : Array Oper := regAt [0] body42
theorem cd_c42_1 : c42_1 = .region 0 r42_1 false := by kernel_rfl
noncomputable def c42_3 : Code := match c42_2 with
  | .seq x _ => x
  | _ => .skip
noncomputable def c42_4 : Code := match c42_2 with
  | .seq _ x => x
  | _ => .skip
theorem cd_c42_2 : c42_2 = .seq c42_3 c42_4 := by kernel_rfl
noncomputable def c42_5 : Code := match c42_3 with
  | .seq x _ => x
  | _ => .skip
noncomputable def c42_6 : Code := match c42_3 with
  | .seq _ x => x
  | _ => .skip
theorem cd_c42_3 : c42_3 = .seq c42_5 c42_6 := by kernel_rfl
noncomputable def r42_5 : Array Oper := regAt [1, 0, 0] body42
theorem cd_c42_5 : c42_5 = .region 1 r42_5 false := by kernel_rfl
noncomputable def c42_7 : Code := match c42_6 with
  | .cond _ x _ => x
  | _ => .skip
theorem cd_c42_6 : c42_6 = .cond (.tmp 11) c42_7 .skip := by kernel_rfl
noncomputable def c42_9 : Code := match c42_7 with
  | .seq x _ => x
  | _ => .skip
theorem cd_c42_7 : c42_7 = .seq c42_9 .ret := by kernel_rfl
noncomputable def r42_9 : Array Oper := regAt [1, 0, 1, 1, 0] body42
theorem cd_c42_9 : c42_9 = .region 2 r42_9 false := by kernel_rfl
noncomputable def c42_10 : Code := match c42_4 with
  | .seq x _ => x
  | _ => .skip
noncomputable def c42_11 : Code := match c42_4 with
  | .seq _ x => x
  | _ => .skip
theorem cd_c42_4 : c42_4 = .seq c42_10 c42_11 := by kernel_rfl
noncomputable def r42_10 : Array Oper := regAt [1, 1, 0] body42
theorem cd_c42_10 : c42_10 = .region 3 r42_10 false := by kernel_rfl
noncomputable def c42_12 : Code := match c42_11 with
  | .seq x _ => x
  | _ => .skip
theorem cd_c42_11 : c42_11 = .seq c42_12 .ret := by kernel_rfl
noncomputable def r42_12 : Array Oper := regAt [1, 1, 1, 0] body42
theorem cd_c42_12 : c42_12 = .region 4 r42_12 false := by kernel_rfl
noncomputable def body43 : Code := match Try.f43.body with
  | some c => c
  | none => .skip
noncomputable def c43_1 : Code := match code43 with
  | .seq x _ => x
  | _ => .skip
noncomputable def c43_2 : Code := match code43 with
  | .seq _ x => x
  | _ => .skip
theorem cd_code43 : code43 = .seq c43_1 c43_2 := by kernel_rfl
noncomputable def r43_1 : Array Oper := regAt [0] body43
theorem cd_c43_1 : c43_1 = .region 0 r43_1 false := by kernel_rfl
noncomputable def c43_3 : Code := match c43_2 with
  | .seq x _ => x
  | _ => .skip
noncomputable def c43_4 : Code := match c43_2 with
  | .seq _ x => x
  | _ => .skip
theorem cd_c43_2 : c43_2 = .seq c43_3 c43_4 := by kernel_rfl
noncomputable def r43_3 : Array Oper := regAt [1, 0] body43
theorem cd_c43_3 : c43_3 = .region 1 r43_3 false := by kernel_rfl
noncomputable def c43_5 : Code := match c43_4 with
  | .seq x _ => x
  | _ => .skip
noncomputable def c43_6 : Code := match c43_4 with
  | .seq _ x => x
  | _ => .skip
theorem cd_c43_4 : c43_4 = .seq c43_5 c43_6 := by kernel_rfl
noncomputable def c43_7 : Code := match c43_5 with
  | .seq x _ => x
  | _ => .skip
noncomputable def c43_8 : Code := match c43_5 with
  | .seq _ x => x
  | _ => .skip
theorem cd_c43_5 : c43_5 = .seq c43_7 c43_8 := by kernel_rfl
noncomputable def r43_7 : Array Oper := regAt [1, 1, 0, 0] body43
theorem cd_c43_7 : c43_7 = .region 2 r43_7 false := by kernel_rfl
noncomputable def c43_9 : Code := match c43_8 with
  | .cond _ x _ => x
  | _ => .skip
theorem cd_c43_8 : c43_8 = .cond (.tmp 11) c43_9 .skip := by kernel_rfl
noncomputable def c43_11 : Code := match c43_9 with
  | .seq x _ => x
  | _ => .skip
theorem cd_c43_9 : c43_9 = .seq c43_11 .ret := by kernel_rfl
noncomputable def r43_11 : Array Oper := regAt [1, 1, 0, 1, 1, 0] body43
theorem cd_c43_11 : c43_11 = .region 3 r43_11 false := by kernel_rfl
noncomputable def c43_12 : Code := match c43_6 with
  | .seq x _ => x
  | _ => .skip
noncomputable def c43_13 : Code := match c43_6 with
  | .seq _ x => x
  | _ => .skip
theorem cd_c43_6 : c43_6 = .seq c43_12 c43_13 := by kernel_rfl
noncomputable def r43_12 : Array Oper := regAt [1, 1, 1, 0] body43
theorem cd_c43_12 : c43_12 = .region 4 r43_12 false := by kernel_rfl
noncomputable def c43_14 : Code := match c43_13 with
  | .seq x _ => x
  | _ => .skip
noncomputable def c43_15 : Code := match c43_13 with
  | .seq _ x => x
  | _ => .skip
theorem cd_c43_13 : c43_13 = .seq c43_14 c43_15 := by kernel_rfl
noncomputable def r43_14 : Array Oper := regAt [1, 1, 1, 1, 0] body43
theorem cd_c43_14 : c43_14 = .region 5 r43_14 false := by kernel_rfl
noncomputable def c43_16 : Code := match c43_15 with
  | .seq x _ => x
  | _ => .skip
theorem cd_c43_15 : c43_15 = .seq c43_16 .ret := by kernel_rfl
noncomputable def r43_16 : Array Oper := regAt [1, 1, 1, 1, 1, 0] body43
theorem cd_c43_16 : c43_16 = .region 6 r43_16 false := by kernel_rfl
noncomputable def body44 : Code := match Try.f44.body with
  | some c => c
  | none => .skip
noncomputable def c44_1 : Code := match code44 with
  | .seq x _ => x
  | _ => .skip
noncomputable def c44_2 : Code := match code44 with
  | .seq _ x => x
  | _ => .skip
theorem cd_code44 : code44 = .seq c44_1 c44_2 := by kernel_rfl
noncomputable def r44_1 : Array Oper := regAt [0] body44
theorem cd_c44_1 : c44_1 = .region 0 r44_1 false := by kernel_rfl
noncomputable def c44_3 : Code := match c44_2 with
  | .seq x _ => x
  | _ => .skip
noncomputable def c44_4 : Code := match c44_2 with
  | .seq _ x => x
  | _ => .skip
theorem cd_c44_2 : c44_2 = .seq c44_3 c44_4 := by kernel_rfl
noncomputable def c44_5 : Code := match c44_3 with
  | .seq x _ => x
  | _ => .skip
noncomputable def c44_6 : Code := match c44_3 with
  | .seq _ x => x
  | _ => .skip
theorem cd_c44_3 : c44_3 = .seq c44_5 c44_6 := by kernel_rfl
noncomputable def r44_5 : Array Oper := regAt [1, 0, 0] body44
theorem cd_c44_5 : c44_5 = .region 1 r44_5 false := by kernel_rfl
noncomputable def c44_7 : Code := match c44_6 with
  | .cond _ x _ => x
  | _ => .skip
theorem cd_c44_6 : c44_6 = .cond (.tmp 11) c44_7 .skip := by kernel_rfl
noncomputable def c44_9 : Code := match c44_7 with
  | .seq x _ => x
  | _ => .skip
theorem cd_c44_7 : c44_7 = .seq c44_9 .ret := by kernel_rfl
noncomputable def r44_9 : Array Oper := regAt [1, 0, 1, 1, 0] body44
theorem cd_c44_9 : c44_9 = .region 2 r44_9 false := by kernel_rfl
noncomputable def c44_10 : Code := match c44_4 with
  | .seq x _ => x
  | _ => .skip
noncomputable def c44_11 : Code := match c44_4 with
  | .seq _ x => x
  | _ => .skip
theorem cd_c44_4 : c44_4 = .seq c44_10 c44_11 := by kernel_rfl
noncomputable def r44_10 : Array Oper := regAt [1, 1, 0] body44
theorem cd_c44_10 : c44_10 = .region 3 r44_10 false := by kernel_rfl
noncomputable def c44_12 : Code := match c44_11 with
  | .seq x _ => x
  | _ => .skip
noncomputable def c44_13 : Code := match c44_11 with
  | .seq _ x => x
  | _ => .skip
theorem cd_c44_11 : c44_11 = .seq c44_12 c44_13 := by kernel_rfl
noncomputable def r44_12 : Array Oper := regAt [1, 1, 1, 0] body44
theorem cd_c44_12 : c44_12 = .region 4 r44_12 false := by kernel_rfl
noncomputable def c44_14 : Code := match c44_13 with
  | .seq x _ => x
  | _ => .skip
noncomputable def c44_15 : Code := match c44_13 with
  | .seq _ x => x
  | _ => .skip
theorem cd_c44_13 : c44_13 = .seq c44_14 c44_15 := by kernel_rfl
noncomputable def r44_14 : Array Oper := regAt [1, 1, 1, 1, 0] body44
theorem cd_c44_14 : c44_14 = .region 5 r44_14 false := by kernel_rfl
noncomputable def c44_16 : Code := match c44_15 with
  | .seq x _ => x
  | _ => .skip
theorem cd_c44_15 : c44_15 = .seq c44_16 .ret := by kernel_rfl
noncomputable def r44_16 : Array Oper := regAt [1, 1, 1, 1, 1, 0] body44
theorem cd_c44_16 : c44_16 = .region 6 r44_16 false := by kernel_rfl
noncomputable def body45 : Code := match Try.f45.body with
  | some c => c
  | none => .skip
noncomputable def c45_1 : Code := match code45 with
  | .seq x _ => x
  | _ => .skip
noncomputable def c45_2 : Code := match code45 with
  | .seq _ x => x
  | _ => .skip
theorem cd_code45 : code45 = .seq c45_1 c45_2 := by kernel_rfl
noncomputable def r45_1 : Array Oper := regAt [0] body45
theorem cd_c45_1 : c45_1 = .region 0 r45_1 false := by kernel_rfl
noncomputable def c45_3 : Code := match c45_2 with
  | .seq x _ => x
  | _ => .skip
noncomputable def c45_4 : Code := match c45_2 with
  | .seq _ x => x
  | _ => .skip
theorem cd_c45_2 : c45_2 = .seq c45_3 c45_4 := by kernel_rfl
noncomputable def c45_5 : Code := match c45_3 with
  | .seq x _ => x
  | _ => .skip
noncomputable def c45_6 : Code := match c45_3 with
  | .seq _ x => x
  | _ => .skip
theorem cd_c45_3 : c45_3 = .seq c45_5 c45_6 := by kernel_rfl
noncomputable def r45_5 : Array Oper := regAt [1, 0, 0] body45
theorem cd_c45_5 : c45_5 = .region 1 r45_5 false := by kernel_rfl
noncomputable def c45_7 : Code := match c45_6 with
  | .cond _ x _ => x
  | _ => .skip
theorem cd_c45_6 : c45_6 = .cond (.tmp 10) c45_7 .skip := by kernel_rfl
noncomputable def c45_9 : Code := match c45_7 with
  | .seq x _ => x
  | _ => .skip
theorem cd_c45_7 : c45_7 = .seq c45_9 .ret := by kernel_rfl
noncomputable def r45_9 : Array Oper := regAt [1, 0, 1, 1, 0] body45
theorem cd_c45_9 : c45_9 = .region 2 r45_9 false := by kernel_rfl
noncomputable def c45_10 : Code := match c45_4 with
  | .seq x _ => x
  | _ => .skip
noncomputable def c45_11 : Code := match c45_4 with
  | .seq _ x => x
  | _ => .skip
theorem cd_c45_4 : c45_4 = .seq c45_10 c45_11 := by kernel_rfl
noncomputable def r45_10 : Array Oper := regAt [1, 1, 0] body45
theorem cd_c45_10 : c45_10 = .region 3 r45_10 false := by kernel_rfl
noncomputable def c45_12 : Code := match c45_11 with
  | .seq x _ => x
  | _ => .skip
theorem cd_c45_11 : c45_11 = .seq c45_12 .ret := by kernel_rfl
noncomputable def r45_12 : Array Oper := regAt [1, 1, 1, 0] body45
theorem cd_c45_12 : c45_12 = .region 4 r45_12 false := by kernel_rfl
noncomputable def body46 : Code := match Try.f46.body with
  | some c => c
  | none => .skip
noncomputable def c46_1 : Code := match code46 with
  | .seq x _ => x
  | _ => .skip
noncomputable def c46_2 : Code := match code46 with
  | .seq _ x => x
  | _ => .skip
theorem cd_code46 : code46 = .seq c46_1 c46_2 := by kernel_rfl
noncomputable def r46_1 : Array Oper := regAt [0] body46
theorem cd_c46_1 : c46_1 = .region 0 r46_1 false := by kernel_rfl
noncomputable def c46_3 : Code := match c46_2 with
  | .seq x _ => x
  | _ => .skip
noncomputable def c46_4 : Code := match c46_2 with
  | .seq _ x => x
  | _ => .skip
theorem cd_c46_2 : c46_2 = .seq c46_3 c46_4 := by kernel_rfl
noncomputable def c46_5 : Code := match c46_3 with
  | .seq x _ => x
  | _ => .skip
noncomputable def c46_6 : Code := match c46_3 with
  | .seq _ x => x
  | _ => .skip
theorem cd_c46_3 : c46_3 = .seq c46_5 c46_6 := by kernel_rfl
noncomputable def r46_5 : Array Oper := regAt [1, 0, 0] body46
theorem cd_c46_5 : c46_5 = .region 1 r46_5 false := by kernel_rfl
noncomputable def c46_7 : Code := match c46_6 with
  | .cond _ x _ => x
  | _ => .skip
theorem cd_c46_6 : c46_6 = .cond (.tmp 6) c46_7 .skip := by kernel_rfl
noncomputable def c46_9 : Code := match c46_7 with
  | .seq x _ => x
  | _ => .skip
theorem cd_c46_7 : c46_7 = .seq c46_9 .ret := by kernel_rfl
noncomputable def r46_9 : Array Oper := regAt [1, 0, 1, 1, 0] body46
theorem cd_c46_9 : c46_9 = .region 2 r46_9 false := by kernel_rfl
noncomputable def c46_10 : Code := match c46_4 with
  | .seq x _ => x
  | _ => .skip
noncomputable def c46_11 : Code := match c46_4 with
  | .seq _ x => x
  | _ => .skip
theorem cd_c46_4 : c46_4 = .seq c46_10 c46_11 := by kernel_rfl
noncomputable def r46_10 : Array Oper := regAt [1, 1, 0] body46
theorem cd_c46_10 : c46_10 = .region 3 r46_10 false := by kernel_rfl
noncomputable def c46_12 : Code := match c46_11 with
  | .seq x _ => x
  | _ => .skip
theorem cd_c46_11 : c46_11 = .seq c46_12 .ret := by kernel_rfl
noncomputable def r46_12 : Array Oper := regAt [1, 1, 1, 0] body46
theorem cd_c46_12 : c46_12 = .region 4 r46_12 false := by kernel_rfl
noncomputable def body47 : Code := match Try.f47.body with
  | some c => c
  | none => .skip
noncomputable def c47_1 : Code := match code47 with
  | .seq x _ => x
  | _ => .skip
noncomputable def c47_2 : Code := match code47 with
  | .seq _ x => x
  | _ => .skip
theorem cd_code47 : code47 = .seq c47_1 c47_2 := by kernel_rfl
noncomputable def r47_1 : Array Oper := regAt [0] body47
theorem cd_c47_1 : c47_1 = .region 0 r47_1 false := by kernel_rfl
noncomputable def c47_3 : Code := match c47_2 with
  | .seq x _ => x
  | _ => .skip
noncomputable def c47_4 : Code := match c47_2 with
  | .seq _ x => x
  | _ => .skip
theorem cd_c47_2 : c47_2 = .seq c47_3 c47_4 := by kernel_rfl
noncomputable def c47_5 : Code := match c47_3 with
  | .seq x _ => x
  | _ => .skip
noncomputable def c47_6 : Code := match c47_3 with
  | .seq _ x => x
  | _ => .skip
theorem cd_c47_3 : c47_3 = .seq c47_5 c47_6 := by kernel_rfl
noncomputable def r47_5 : Array Oper := regAt [1, 0, 0] body47
theorem cd_c47_5 : c47_5 = .region 1 r47_5 false := by kernel_rfl
noncomputable def c47_7 : Code := match c47_6 with
  | .cond _ x _ => x
  | _ => .skip
theorem cd_c47_6 : c47_6 = .cond (.tmp 6) c47_7 .skip := by kernel_rfl
noncomputable def c47_9 : Code := match c47_7 with
  | .seq x _ => x
  | _ => .skip
theorem cd_c47_7 : c47_7 = .seq c47_9 .ret := by kernel_rfl
noncomputable def r47_9 : Array Oper := regAt [1, 0, 1, 1, 0] body47
theorem cd_c47_9 : c47_9 = .region 2 r47_9 false := by kernel_rfl
noncomputable def c47_10 : Code := match c47_4 with
  | .seq x _ => x
  | _ => .skip
noncomputable def c47_11 : Code := match c47_4 with
  | .seq _ x => x
  | _ => .skip
theorem cd_c47_4 : c47_4 = .seq c47_10 c47_11 := by kernel_rfl
noncomputable def c47_12 : Code := match c47_10 with
  | .seq x _ => x
  | _ => .skip
noncomputable def c47_13 : Code := match c47_10 with
  | .seq _ x => x
  | _ => .skip
theorem cd_c47_10 : c47_10 = .seq c47_12 c47_13 := by kernel_rfl
noncomputable def r47_12 : Array Oper := regAt [1, 1, 0, 0] body47
theorem cd_c47_12 : c47_12 = .region 3 r47_12 true := by kernel_rfl
noncomputable def c47_14 : Code := match c47_13 with
  | .cond _ x _ => x
  | _ => .skip
theorem cd_c47_13 : c47_13 = .cond (.tmp 18) c47_14 .skip := by kernel_rfl
noncomputable def r47_14 : Array Oper := regAt [1, 1, 0, 1, 1] body47
theorem cd_c47_14 : c47_14 = .region 4 r47_14 true := by kernel_rfl
noncomputable def c47_16 : Code := match c47_11 with
  | .seq x _ => x
  | _ => .skip
noncomputable def c47_17 : Code := match c47_11 with
  | .seq _ x => x
  | _ => .skip
theorem cd_c47_11 : c47_11 = .seq c47_16 c47_17 := by kernel_rfl
noncomputable def r47_16 : Array Oper := regAt [1, 1, 1, 0] body47
theorem cd_c47_16 : c47_16 = .region 5 r47_16 false := by kernel_rfl
noncomputable def c47_18 : Code := match c47_17 with
  | .seq x _ => x
  | _ => .skip
noncomputable def c47_19 : Code := match c47_17 with
  | .seq _ x => x
  | _ => .skip
theorem cd_c47_17 : c47_17 = .seq c47_18 c47_19 := by kernel_rfl
noncomputable def r47_18 : Array Oper := regAt [1, 1, 1, 1, 0] body47
theorem cd_c47_18 : c47_18 = .region 6 r47_18 false := by kernel_rfl
noncomputable def c47_20 : Code := match c47_19 with
  | .seq x _ => x
  | _ => .skip
noncomputable def c47_21 : Code := match c47_19 with
  | .seq _ x => x
  | _ => .skip
theorem cd_c47_19 : c47_19 = .seq c47_20 c47_21 := by kernel_rfl
noncomputable def r47_20 : Array Oper := regAt [1, 1, 1, 1, 1, 0] body47
theorem cd_c47_20 : c47_20 = .region 7 r47_20 false := by kernel_rfl
noncomputable def c47_22 : Code := match c47_21 with
  | .seq x _ => x
  | _ => .skip
noncomputable def c47_23 : Code := match c47_21 with
  | .seq _ x => x
  | _ => .skip
theorem cd_c47_21 : c47_21 = .seq c47_22 c47_23 := by kernel_rfl
noncomputable def r47_22 : Array Oper := regAt [1, 1, 1, 1, 1, 1, 0] body47
theorem cd_c47_22 : c47_22 = .region 8 r47_22 false := by kernel_rfl
noncomputable def c47_24 : Code := match c47_23 with
  | .seq x _ => x
  | _ => .skip
theorem cd_c47_23 : c47_23 = .seq c47_24 .ret := by kernel_rfl
noncomputable def r47_24 : Array Oper := regAt [1, 1, 1, 1, 1, 1, 1, 0] body47
theorem cd_c47_24 : c47_24 = .region 9 r47_24 false := by kernel_rfl
noncomputable def body48 : Code := match Try.f48.body with
  | some c => c
  | none => .skip
noncomputable def c48_1 : Code := match code48 with
  | .seq x _ => x
  | _ => .skip
noncomputable def c48_2 : Code := match code48 with
  | .seq _ x => x
  | _ => .skip
theorem cd_code48 : code48 = .seq c48_1 c48_2 := by kernel_rfl
noncomputable def r48_1 : Array Oper := regAt [0] body48
theorem cd_c48_1 : c48_1 = .region 0 r48_1 false := by kernel_rfl
noncomputable def c48_3 : Code := match c48_2 with
  | .seq x _ => x
  | _ => .skip
noncomputable def c48_4 : Code := match c48_2 with
  | .seq _ x => x
  | _ => .skip
theorem cd_c48_2 : c48_2 = .seq c48_3 c48_4 := by kernel_rfl
noncomputable def r48_3 : Array Oper := regAt [1, 0] body48
theorem cd_c48_3 : c48_3 = .region 1 r48_3 false := by kernel_rfl
noncomputable def c48_5 : Code := match c48_4 with
  | .seq x _ => x
  | _ => .skip
noncomputable def c48_6 : Code := match c48_4 with
  | .seq _ x => x
  | _ => .skip
theorem cd_c48_4 : c48_4 = .seq c48_5 c48_6 := by kernel_rfl
noncomputable def r48_5 : Array Oper := regAt [1, 1, 0] body48
theorem cd_c48_5 : c48_5 = .region 2 r48_5 false := by kernel_rfl
noncomputable def c48_7 : Code := match c48_6 with
  | .seq x _ => x
  | _ => .skip
noncomputable def c48_8 : Code := match c48_6 with
  | .seq _ x => x
  | _ => .skip
theorem cd_c48_6 : c48_6 = .seq c48_7 c48_8 := by kernel_rfl
noncomputable def r48_7 : Array Oper := regAt [1, 1, 1, 0] body48
theorem cd_c48_7 : c48_7 = .region 3 r48_7 false := by kernel_rfl
noncomputable def c48_9 : Code := match c48_8 with
  | .seq x _ => x
  | _ => .skip
noncomputable def c48_10 : Code := match c48_8 with
  | .seq _ x => x
  | _ => .skip
theorem cd_c48_8 : c48_8 = .seq c48_9 c48_10 := by kernel_rfl
noncomputable def r48_9 : Array Oper := regAt [1, 1, 1, 1, 0] body48
theorem cd_c48_9 : c48_9 = .region 4 r48_9 false := by kernel_rfl
noncomputable def c48_11 : Code := match c48_10 with
  | .seq x _ => x
  | _ => .skip
noncomputable def c48_12 : Code := match c48_10 with
  | .seq _ x => x
  | _ => .skip
theorem cd_c48_10 : c48_10 = .seq c48_11 c48_12 := by kernel_rfl
noncomputable def r48_11 : Array Oper := regAt [1, 1, 1, 1, 1, 0] body48
theorem cd_c48_11 : c48_11 = .region 5 r48_11 false := by kernel_rfl
noncomputable def c48_13 : Code := match c48_12 with
  | .seq x _ => x
  | _ => .skip
theorem cd_c48_12 : c48_12 = .seq c48_13 .ret := by kernel_rfl
noncomputable def r48_13 : Array Oper := regAt [1, 1, 1, 1, 1, 1, 0] body48
theorem cd_c48_13 : c48_13 = .region 6 r48_13 false := by kernel_rfl
noncomputable def body49 : Code := match Try.f49.body with
  | some c => c
  | none => .skip
noncomputable def c49_1 : Code := match code49 with
  | .seq x _ => x
  | _ => .skip
noncomputable def c49_2 : Code := match code49 with
  | .seq _ x => x
  | _ => .skip
theorem cd_code49 : code49 = .seq c49_1 c49_2 := by kernel_rfl
noncomputable def r49_1 : Array Oper := regAt [0] body49
theorem cd_c49_1 : c49_1 = .region 0 r49_1 false := by kernel_rfl
noncomputable def c49_3 : Code := match c49_2 with
  | .seq x _ => x
  | _ => .skip
noncomputable def c49_4 : Code := match c49_2 with
  | .seq _ x => x
  | _ => .skip
theorem cd_c49_2 : c49_2 = .seq c49_3 c49_4 := by kernel_rfl
noncomputable def r49_3 : Array Oper := regAt [1, 0] body49
theorem cd_c49_3 : c49_3 = .region 1 r49_3 false := by kernel_rfl
noncomputable def c49_5 : Code := match c49_4 with
  | .seq x _ => x
  | _ => .skip
noncomputable def c49_6 : Code := match c49_4 with
  | .seq _ x => x
  | _ => .skip
theorem cd_c49_4 : c49_4 = .seq c49_5 c49_6 := by kernel_rfl
noncomputable def c49_7 : Code := match c49_5 with
  | .seq x _ => x
  | _ => .skip
noncomputable def c49_8 : Code := match c49_5 with
  | .seq _ x => x
  | _ => .skip
theorem cd_c49_5 : c49_5 = .seq c49_7 c49_8 := by kernel_rfl
noncomputable def r49_7 : Array Oper := regAt [1, 1, 0, 0] body49
theorem cd_c49_7 : c49_7 = .region 2 r49_7 false := by kernel_rfl
noncomputable def c49_9 : Code := match c49_8 with
  | .cond _ x _ => x
  | _ => .skip
theorem cd_c49_8 : c49_8 = .cond (.tmp 22) c49_9 .skip := by kernel_rfl
noncomputable def c49_11 : Code := match c49_9 with
  | .seq x _ => x
  | _ => .skip
theorem cd_c49_9 : c49_9 = .seq c49_11 .ret := by kernel_rfl
noncomputable def r49_11 : Array Oper := regAt [1, 1, 0, 1, 1, 0] body49
theorem cd_c49_11 : c49_11 = .region 3 r49_11 false := by kernel_rfl
noncomputable def c49_12 : Code := match c49_6 with
  | .seq x _ => x
  | _ => .skip
noncomputable def c49_13 : Code := match c49_6 with
  | .seq _ x => x
  | _ => .skip
theorem cd_c49_6 : c49_6 = .seq c49_12 c49_13 := by kernel_rfl
noncomputable def r49_12 : Array Oper := regAt [1, 1, 1, 0] body49
theorem cd_c49_12 : c49_12 = .region 4 r49_12 false := by kernel_rfl
noncomputable def c49_14 : Code := match c49_13 with
  | .seq x _ => x
  | _ => .skip
theorem cd_c49_13 : c49_13 = .seq c49_14 .ret := by kernel_rfl
noncomputable def r49_14 : Array Oper := regAt [1, 1, 1, 1, 0] body49
theorem cd_c49_14 : c49_14 = .region 5 r49_14 false := by kernel_rfl
noncomputable def body50 : Code := match Try.f50.body with
  | some c => c
  | none => .skip
noncomputable def c50_1 : Code := match code50 with
  | .seq x _ => x
  | _ => .skip
noncomputable def c50_2 : Code := match code50 with
  | .seq _ x => x
  | _ => .skip
theorem cd_code50 : code50 = .seq c50_1 c50_2 := by kernel_rfl
noncomputable def r50_1 : Array Oper := regAt [0] body50
theorem cd_c50_1 : c50_1 = .region 0 r50_1 false := by kernel_rfl
noncomputable def c50_3 : Code := match c50_2 with
  | .seq x _ => x
  | _ => .skip
noncomputable def c50_4 : Code := match c50_2 with
  | .seq _ x => x
  | _ => .skip
theorem cd_c50_2 : c50_2 = .seq c50_3 c50_4 := by kernel_rfl
noncomputable def r50_3 : Array Oper := regAt [1, 0] body50
theorem cd_c50_3 : c50_3 = .region 1 r50_3 false := by kernel_rfl
noncomputable def c50_5 : Code := match c50_4 with
  | .block _ x => x
  | _ => .skip
theorem cd_c50_4 : c50_4 = .block 0 c50_5 := by kernel_rfl
noncomputable def c50_6 : Code := match c50_5 with
  | .loop x => x
  | _ => .skip
theorem cd_c50_5 : c50_5 = .loop c50_6 := by kernel_rfl
noncomputable def c50_7 : Code := match c50_6 with
  | .seq x _ => x
  | _ => .skip
noncomputable def c50_8 : Code := match c50_6 with
  | .seq _ x => x
  | _ => .skip
theorem cd_c50_6 : c50_6 = .seq c50_7 c50_8 := by kernel_rfl
noncomputable def c50_9 : Code := match c50_7 with
  | .seq x _ => x
  | _ => .skip
noncomputable def c50_10 : Code := match c50_7 with
  | .seq _ x => x
  | _ => .skip
theorem cd_c50_7 : c50_7 = .seq c50_9 c50_10 := by kernel_rfl
noncomputable def r50_9 : Array Oper := regAt [1, 1, 1, 0, 0, 0] body50
theorem cd_c50_9 : c50_9 = .region 2 r50_9 false := by kernel_rfl
theorem cd_c50_10 : c50_10 = .cond (.tmp 10) .skip (.exit 0) := by kernel_rfl
noncomputable def c50_12 : Code := match c50_8 with
  | .seq x _ => x
  | _ => .skip
noncomputable def c50_13 : Code := match c50_8 with
  | .seq _ x => x
  | _ => .skip
theorem cd_c50_8 : c50_8 = .seq c50_12 c50_13 := by kernel_rfl
noncomputable def c50_14 : Code := match c50_12 with
  | .block _ x => x
  | _ => .skip
theorem cd_c50_12 : c50_12 = .block 1 c50_14 := by kernel_rfl
noncomputable def r50_14 : Array Oper := regAt [1, 1, 1, 0, 1, 0, 1] body50
theorem cd_c50_14 : c50_14 = .region 4 r50_14 false := by kernel_rfl
noncomputable def r50_13 : Array Oper := regAt [1, 1, 1, 0, 1, 1] body50
theorem cd_c50_13 : c50_13 = .region 3 r50_13 false := by kernel_rfl
noncomputable def body51 : Code := match Try.f51.body with
  | some c => c
  | none => .skip
noncomputable def c51_1 : Code := match code51 with
  | .seq x _ => x
  | _ => .skip
noncomputable def c51_2 : Code := match code51 with
  | .seq _ x => x
  | _ => .skip
theorem cd_code51 : code51 = .seq c51_1 c51_2 := by kernel_rfl
noncomputable def r51_1 : Array Oper := regAt [0] body51
theorem cd_c51_1 : c51_1 = .region 0 r51_1 false := by kernel_rfl
noncomputable def c51_3 : Code := match c51_2 with
  | .seq x _ => x
  | _ => .skip
noncomputable def c51_4 : Code := match c51_2 with
  | .seq _ x => x
  | _ => .skip
theorem cd_c51_2 : c51_2 = .seq c51_3 c51_4 := by kernel_rfl
noncomputable def c51_5 : Code := match c51_3 with
  | .seq x _ => x
  | _ => .skip
noncomputable def c51_6 : Code := match c51_3 with
  | .seq _ x => x
  | _ => .skip
theorem cd_c51_3 : c51_3 = .seq c51_5 c51_6 := by kernel_rfl
noncomputable def r51_5 : Array Oper := regAt [1, 0, 0] body51
theorem cd_c51_5 : c51_5 = .region 1 r51_5 false := by kernel_rfl
noncomputable def c51_7 : Code := match c51_6 with
  | .cond _ x _ => x
  | _ => .skip
theorem cd_c51_6 : c51_6 = .cond (.tmp 7) c51_7 .skip := by kernel_rfl
noncomputable def c51_9 : Code := match c51_7 with
  | .seq x _ => x
  | _ => .skip
theorem cd_c51_7 : c51_7 = .seq c51_9 .ret := by kernel_rfl
noncomputable def r51_9 : Array Oper := regAt [1, 0, 1, 1, 0] body51
theorem cd_c51_9 : c51_9 = .region 2 r51_9 false := by kernel_rfl
noncomputable def c51_10 : Code := match c51_4 with
  | .seq x _ => x
  | _ => .skip
theorem cd_c51_4 : c51_4 = .seq c51_10 .ret := by kernel_rfl
noncomputable def r51_10 : Array Oper := regAt [1, 1, 0] body51
theorem cd_c51_10 : c51_10 = .region 3 r51_10 false := by kernel_rfl
noncomputable def body52 : Code := match Try.f52.body with
  | some c => c
  | none => .skip
noncomputable def c52_1 : Code := match code52 with
  | .seq x _ => x
  | _ => .skip
noncomputable def c52_2 : Code := match code52 with
  | .seq _ x => x
  | _ => .skip
theorem cd_code52 : code52 = .seq c52_1 c52_2 := by kernel_rfl
noncomputable def r52_1 : Array Oper := regAt [0] body52
theorem cd_c52_1 : c52_1 = .region 0 r52_1 false := by kernel_rfl
noncomputable def c52_3 : Code := match c52_2 with
  | .seq x _ => x
  | _ => .skip
noncomputable def c52_4 : Code := match c52_2 with
  | .seq _ x => x
  | _ => .skip
theorem cd_c52_2 : c52_2 = .seq c52_3 c52_4 := by kernel_rfl
noncomputable def r52_3 : Array Oper := regAt [1, 0] body52
theorem cd_c52_3 : c52_3 = .region 1 r52_3 false := by kernel_rfl
noncomputable def c52_5 : Code := match c52_4 with
  | .seq x _ => x
  | _ => .skip
noncomputable def c52_6 : Code := match c52_4 with
  | .seq _ x => x
  | _ => .skip
theorem cd_c52_4 : c52_4 = .seq c52_5 c52_6 := by kernel_rfl
noncomputable def r52_5 : Array Oper := regAt [1, 1, 0] body52
theorem cd_c52_5 : c52_5 = .region 2 r52_5 false := by kernel_rfl
noncomputable def c52_7 : Code := match c52_6 with
  | .seq x _ => x
  | _ => .skip
noncomputable def c52_8 : Code := match c52_6 with
  | .seq _ x => x
  | _ => .skip
theorem cd_c52_6 : c52_6 = .seq c52_7 c52_8 := by kernel_rfl
noncomputable def r52_7 : Array Oper := regAt [1, 1, 1, 0] body52
theorem cd_c52_7 : c52_7 = .region 3 r52_7 false := by kernel_rfl
noncomputable def c52_9 : Code := match c52_8 with
  | .seq x _ => x
  | _ => .skip
noncomputable def c52_10 : Code := match c52_8 with
  | .seq _ x => x
  | _ => .skip
theorem cd_c52_8 : c52_8 = .seq c52_9 c52_10 := by kernel_rfl
noncomputable def c52_11 : Code := match c52_9 with
  | .seq x _ => x
  | _ => .skip
noncomputable def c52_12 : Code := match c52_9 with
  | .seq _ x => x
  | _ => .skip
theorem cd_c52_9 : c52_9 = .seq c52_11 c52_12 := by kernel_rfl
noncomputable def r52_11 : Array Oper := regAt [1, 1, 1, 1, 0, 0] body52
theorem cd_c52_11 : c52_11 = .region 4 r52_11 false := by kernel_rfl
noncomputable def c52_13 : Code := match c52_12 with
  | .cond _ x _ => x
  | _ => .skip
theorem cd_c52_12 : c52_12 = .cond (.tmp 31) c52_13 .skip := by kernel_rfl
noncomputable def c52_15 : Code := match c52_13 with
  | .seq x _ => x
  | _ => .skip
noncomputable def c52_16 : Code := match c52_13 with
  | .seq _ x => x
  | _ => .skip
theorem cd_c52_13 : c52_13 = .seq c52_15 c52_16 := by kernel_rfl
noncomputable def r52_15 : Array Oper := regAt [1, 1, 1, 1, 0, 1, 1, 0] body52
theorem cd_c52_15 : c52_15 = .region 5 r52_15 false := by kernel_rfl
noncomputable def c52_17 : Code := match c52_16 with
  | .seq x _ => x
  | _ => .skip
theorem cd_c52_16 : c52_16 = .seq c52_17 .ret := by kernel_rfl
noncomputable def r52_17 : Array Oper := regAt [1, 1, 1, 1, 0, 1, 1, 1, 0] body52
theorem cd_c52_17 : c52_17 = .region 6 r52_17 false := by kernel_rfl
noncomputable def c52_18 : Code := match c52_10 with
  | .seq x _ => x
  | _ => .skip
noncomputable def c52_19 : Code := match c52_10 with
  | .seq _ x => x
  | _ => .skip
theorem cd_c52_10 : c52_10 = .seq c52_18 c52_19 := by kernel_rfl
noncomputable def r52_18 : Array Oper := regAt [1, 1, 1, 1, 1, 0] body52
theorem cd_c52_18 : c52_18 = .region 7 r52_18 false := by kernel_rfl
noncomputable def c52_20 : Code := match c52_19 with
  | .seq x _ => x
  | _ => .skip
noncomputable def c52_21 : Code := match c52_19 with
  | .seq _ x => x
  | _ => .skip
theorem cd_c52_19 : c52_19 = .seq c52_20 c52_21 := by kernel_rfl
noncomputable def c52_22 : Code := match c52_20 with
  | .seq x _ => x
  | _ => .skip
noncomputable def c52_23 : Code := match c52_20 with
  | .seq _ x => x
  | _ => .skip
theorem cd_c52_20 : c52_20 = .seq c52_22 c52_23 := by kernel_rfl
noncomputable def r52_22 : Array Oper := regAt [1, 1, 1, 1, 1, 1, 0, 0] body52
theorem cd_c52_22 : c52_22 = .region 8 r52_22 false := by kernel_rfl
noncomputable def c52_24 : Code := match c52_23 with
  | .cond _ x _ => x
  | _ => .skip
theorem cd_c52_23 : c52_23 = .cond (.tmp 41) c52_24 .skip := by kernel_rfl
noncomputable def r52_24 : Array Oper := regAt [1, 1, 1, 1, 1, 1, 0, 1, 1] body52
theorem cd_c52_24 : c52_24 = .region 9 r52_24 false := by kernel_rfl
noncomputable def c52_26 : Code := match c52_21 with
  | .seq x _ => x
  | _ => .skip
theorem cd_c52_21 : c52_21 = .seq c52_26 .ret := by kernel_rfl
noncomputable def r52_26 : Array Oper := regAt [1, 1, 1, 1, 1, 1, 1, 0] body52
theorem cd_c52_26 : c52_26 = .region 10 r52_26 false := by kernel_rfl
noncomputable def body53 : Code := match Try.f53.body with
  | some c => c
  | none => .skip
noncomputable def r53 : Array Oper := regAt [] body53
theorem cd_code53 : code53 = .region 0 r53 true := by kernel_rfl
noncomputable def body55 : Code := match Try.f55.body with
  | some c => c
  | none => .skip
noncomputable def c55_1 : Code := match code55 with
  | .seq x _ => x
  | _ => .skip
noncomputable def c55_2 : Code := match code55 with
  | .seq _ x => x
  | _ => .skip
theorem cd_code55 : code55 = .seq c55_1 c55_2 := by kernel_rfl
noncomputable def r55_1 : Array Oper := regAt [0] body55
theorem cd_c55_1 : c55_1 = .region 0 r55_1 false := by kernel_rfl
noncomputable def c55_3 : Code := match c55_2 with
  | .seq x _ => x
  | _ => .skip
theorem cd_c55_2 : c55_2 = .seq c55_3 .ret := by kernel_rfl
noncomputable def r55_3 : Array Oper := regAt [1, 0] body55
theorem cd_c55_3 : c55_3 = .region 1 r55_3 false := by kernel_rfl
noncomputable def body56 : Code := match Try.f56.body with
  | some c => c
  | none => .skip
noncomputable def c56_1 : Code := match code56 with
  | .seq x _ => x
  | _ => .skip
noncomputable def c56_2 : Code := match code56 with
  | .seq _ x => x
  | _ => .skip
theorem cd_code56 : code56 = .seq c56_1 c56_2 := by kernel_rfl
noncomputable def r56_1 : Array Oper := regAt [0] body56
theorem cd_c56_1 : c56_1 = .region 0 r56_1 false := by kernel_rfl
noncomputable def c56_3 : Code := match c56_2 with
  | .seq x _ => x
  | _ => .skip
noncomputable def c56_4 : Code := match c56_2 with
  | .seq _ x => x
  | _ => .skip
theorem cd_c56_2 : c56_2 = .seq c56_3 c56_4 := by kernel_rfl
noncomputable def c56_5 : Code := match c56_3 with
  | .seq x _ => x
  | _ => .skip
noncomputable def c56_6 : Code := match c56_3 with
  | .seq _ x => x
  | _ => .skip
theorem cd_c56_3 : c56_3 = .seq c56_5 c56_6 := by kernel_rfl
noncomputable def r56_5 : Array Oper := regAt [1, 0, 0] body56
theorem cd_c56_5 : c56_5 = .region 1 r56_5 false := by kernel_rfl
noncomputable def c56_7 : Code := match c56_6 with
  | .cond _ x _ => x
  | _ => .skip
theorem cd_c56_6 : c56_6 = .cond (.tmp 8) c56_7 .skip := by kernel_rfl
noncomputable def c56_9 : Code := match c56_7 with
  | .seq x _ => x
  | _ => .skip
theorem cd_c56_7 : c56_7 = .seq c56_9 .ret := by kernel_rfl
noncomputable def r56_9 : Array Oper := regAt [1, 0, 1, 1, 0] body56
theorem cd_c56_9 : c56_9 = .region 2 r56_9 false := by kernel_rfl
noncomputable def c56_10 : Code := match c56_4 with
  | .seq x _ => x
  | _ => .skip
noncomputable def c56_11 : Code := match c56_4 with
  | .seq _ x => x
  | _ => .skip
theorem cd_c56_4 : c56_4 = .seq c56_10 c56_11 := by kernel_rfl
noncomputable def c56_12 : Code := match c56_10 with
  | .seq x _ => x
  | _ => .skip
noncomputable def c56_13 : Code := match c56_10 with
  | .seq _ x => x
  | _ => .skip
theorem cd_c56_10 : c56_10 = .seq c56_12 c56_13 := by kernel_rfl
noncomputable def r56_12 : Array Oper := regAt [1, 1, 0, 0] body56
theorem cd_c56_12 : c56_12 = .region 3 r56_12 true := by kernel_rfl
noncomputable def c56_14 : Code := match c56_13 with
  | .cond _ x _ => x
  | _ => .skip
theorem cd_c56_13 : c56_13 = .cond (.tmp 27) c56_14 .skip := by kernel_rfl
noncomputable def c56_16 : Code := match c56_14 with
  | .seq x _ => x
  | _ => .skip
theorem cd_c56_14 : c56_14 = .seq c56_16 .ret := by kernel_rfl
noncomputable def r56_16 : Array Oper := regAt [1, 1, 0, 1, 1, 0] body56
theorem cd_c56_16 : c56_16 = .region 4 r56_16 false := by kernel_rfl
noncomputable def c56_17 : Code := match c56_11 with
  | .seq x _ => x
  | _ => .skip
theorem cd_c56_11 : c56_11 = .seq c56_17 .ret := by kernel_rfl
noncomputable def r56_17 : Array Oper := regAt [1, 1, 1, 0] body56
theorem cd_c56_17 : c56_17 = .region 5 r56_17 false := by kernel_rfl
noncomputable def body57 : Code := match Try.f57.body with
  | some c => c
  | none => .skip
noncomputable def c57_1 : Code := match code57 with
  | .seq x _ => x
  | _ => .skip
noncomputable def c57_2 : Code := match code57 with
  | .seq _ x => x
  | _ => .skip
theorem cd_code57 : code57 = .seq c57_1 c57_2 := by kernel_rfl
noncomputable def r57_1 : Array Oper := regAt [0] body57
theorem cd_c57_1 : c57_1 = .region 0 r57_1 false := by kernel_rfl
noncomputable def c57_3 : Code := match c57_2 with
  | .seq x _ => x
  | _ => .skip
noncomputable def c57_4 : Code := match c57_2 with
  | .seq _ x => x
  | _ => .skip
theorem cd_c57_2 : c57_2 = .seq c57_3 c57_4 := by kernel_rfl
noncomputable def r57_3 : Array Oper := regAt [1, 0] body57
theorem cd_c57_3 : c57_3 = .region 1 r57_3 false := by kernel_rfl
noncomputable def c57_5 : Code := match c57_4 with
  | .seq x _ => x
  | _ => .skip
noncomputable def c57_6 : Code := match c57_4 with
  | .seq _ x => x
  | _ => .skip
theorem cd_c57_4 : c57_4 = .seq c57_5 c57_6 := by kernel_rfl
noncomputable def c57_7 : Code := match c57_5 with
  | .seq x _ => x
  | _ => .skip
noncomputable def c57_8 : Code := match c57_5 with
  | .seq _ x => x
  | _ => .skip
theorem cd_c57_5 : c57_5 = .seq c57_7 c57_8 := by kernel_rfl
noncomputable def r57_7 : Array Oper := regAt [1, 1, 0, 0] body57
theorem cd_c57_7 : c57_7 = .region 2 r57_7 false := by kernel_rfl
noncomputable def c57_9 : Code := match c57_8 with
  | .cond _ x _ => x
  | _ => .skip
theorem cd_c57_8 : c57_8 = .cond (.tmp 14) c57_9 .skip := by kernel_rfl
noncomputable def c57_11 : Code := match c57_9 with
  | .seq x _ => x
  | _ => .skip
noncomputable def c57_12 : Code := match c57_9 with
  | .seq _ x => x
  | _ => .skip
theorem cd_c57_9 : c57_9 = .seq c57_11 c57_12 := by kernel_rfl
noncomputable def r57_11 : Array Oper := regAt [1, 1, 0, 1, 1, 0] body57
theorem cd_c57_11 : c57_11 = .region 3 r57_11 false := by kernel_rfl
noncomputable def c57_13 : Code := match c57_12 with
  | .seq x _ => x
  | _ => .skip
theorem cd_c57_12 : c57_12 = .seq c57_13 .ret := by kernel_rfl
noncomputable def r57_13 : Array Oper := regAt [1, 1, 0, 1, 1, 1, 0] body57
theorem cd_c57_13 : c57_13 = .region 4 r57_13 false := by kernel_rfl
noncomputable def c57_14 : Code := match c57_6 with
  | .seq x _ => x
  | _ => .skip
noncomputable def c57_15 : Code := match c57_6 with
  | .seq _ x => x
  | _ => .skip
theorem cd_c57_6 : c57_6 = .seq c57_14 c57_15 := by kernel_rfl
noncomputable def c57_16 : Code := match c57_14 with
  | .seq x _ => x
  | _ => .skip
noncomputable def c57_17 : Code := match c57_14 with
  | .seq _ x => x
  | _ => .skip
theorem cd_c57_14 : c57_14 = .seq c57_16 c57_17 := by kernel_rfl
noncomputable def r57_16 : Array Oper := regAt [1, 1, 1, 0, 0] body57
theorem cd_c57_16 : c57_16 = .region 5 r57_16 false := by kernel_rfl
noncomputable def c57_18 : Code := match c57_17 with
  | .cond _ x _ => x
  | _ => .skip
theorem cd_c57_17 : c57_17 = .cond (.tmp 22) c57_18 .skip := by kernel_rfl
noncomputable def r57_18 : Array Oper := regAt [1, 1, 1, 0, 1, 1] body57
theorem cd_c57_18 : c57_18 = .region 6 r57_18 false := by kernel_rfl
noncomputable def c57_20 : Code := match c57_15 with
  | .seq x _ => x
  | _ => .skip
theorem cd_c57_15 : c57_15 = .seq c57_20 .ret := by kernel_rfl
noncomputable def r57_20 : Array Oper := regAt [1, 1, 1, 1, 0] body57
theorem cd_c57_20 : c57_20 = .region 7 r57_20 false := by kernel_rfl
noncomputable def body58 : Code := match Try.f58.body with
  | some c => c
  | none => .skip
noncomputable def c58_1 : Code := match code58 with
  | .seq x _ => x
  | _ => .skip
noncomputable def c58_2 : Code := match code58 with
  | .seq _ x => x
  | _ => .skip
theorem cd_code58 : code58 = .seq c58_1 c58_2 := by kernel_rfl
noncomputable def r58_1 : Array Oper := regAt [0] body58
theorem cd_c58_1 : c58_1 = .region 0 r58_1 false := by kernel_rfl
noncomputable def c58_3 : Code := match c58_2 with
  | .seq x _ => x
  | _ => .skip
noncomputable def c58_4 : Code := match c58_2 with
  | .seq _ x => x
  | _ => .skip
theorem cd_c58_2 : c58_2 = .seq c58_3 c58_4 := by kernel_rfl
noncomputable def c58_5 : Code := match c58_3 with
  | .seq x _ => x
  | _ => .skip
noncomputable def c58_6 : Code := match c58_3 with
  | .seq _ x => x
  | _ => .skip
theorem cd_c58_3 : c58_3 = .seq c58_5 c58_6 := by kernel_rfl
noncomputable def r58_5 : Array Oper := regAt [1, 0, 0] body58
theorem cd_c58_5 : c58_5 = .region 1 r58_5 false := by kernel_rfl
noncomputable def c58_7 : Code := match c58_6 with
  | .cond _ x _ => x
  | _ => .skip
theorem cd_c58_6 : c58_6 = .cond (.tmp 3) c58_7 .skip := by kernel_rfl
noncomputable def c58_9 : Code := match c58_7 with
  | .seq x _ => x
  | _ => .skip
theorem cd_c58_7 : c58_7 = .seq c58_9 .ret := by kernel_rfl
noncomputable def r58_9 : Array Oper := regAt [1, 0, 1, 1, 0] body58
theorem cd_c58_9 : c58_9 = .region 2 r58_9 false := by kernel_rfl
noncomputable def c58_10 : Code := match c58_4 with
  | .seq x _ => x
  | _ => .skip
theorem cd_c58_4 : c58_4 = .seq c58_10 .ret := by kernel_rfl
noncomputable def r58_10 : Array Oper := regAt [1, 1, 0] body58
theorem cd_c58_10 : c58_10 = .region 3 r58_10 false := by kernel_rfl
end Go.Proofs.Ytmdepmhamefheaa
