/-
  The code of this seat's functions in named pieces: by our program cds.py.
-/
import Derived.Test.YtdoeopcimhpjaaaFn
import Derived.Test.YtdoeopcimhpjaaaSe
import Derived.KernelRfl
open Go Go.SY
namespace Go.Proofs.Ytdoeopcimhpjaaa
noncomputable def body2 : Code := match Try.f2.body with
  | some c => c
  | none => .skip
noncomputable def r2 : Array Oper := regAt [] body2
theorem cd_code2 : code2 = .region 0 r2 false := by kernel_rfl
noncomputable def body3 : Code := match Try.f3.body with
  | some c => c
  | none => .skip
noncomputable def c3_1 : Code := match code3 with
  | .seq x _ => x
  | _ => .skip
noncomputable def c3_2 : Code := match code3 with
  | .seq _ x => x
  | _ => .skip
theorem cd_code3 : code3 = .seq c3_1 c3_2 := by kernel_rfl
noncomputable def r3_1 : Array Oper := regAt [0] body3
theorem cd_c3_1 : c3_1 = .region 0 r3_1 false := by kernel_rfl
noncomputable def c3_3 : Code := match c3_2 with
  | .seq x _ => x
  | _ => .skip
noncomputable def c3_4 : Code := match c3_2 with
  | .seq _ x => x
  | _ => .skip
theorem cd_c3_2 : c3_2 = .seq c3_3 c3_4 := by kernel_rfl
noncomputable def c3_5 : Code := match c3_3 with
  | .seq x _ => x
  | _ => .skip
noncomputable def c3_6 : Code := match c3_3 with
  | .seq _ x => x
  | _ => .skip
theorem cd_c3_3 : c3_3 = .seq c3_5 c3_6 := by kernel_rfl
noncomputable def r3_5 : Array Oper := regAt [1, 0, 0] body3
theorem cd_c3_5 : c3_5 = .region 1 r3_5 false := by kernel_rfl
noncomputable def c3_7 : Code := match c3_6 with
  | .cond _ x _ => x
  | _ => .skip
theorem cd_c3_6 : c3_6 = .cond (.tmp 12) c3_7 .skip := by kernel_rfl
noncomputable def c3_9 : Code := match c3_7 with
  | .seq x _ => x
  | _ => .skip
theorem cd_c3_7 : c3_7 = .seq c3_9 .ret := by kernel_rfl
noncomputable def r3_9 : Array Oper := regAt [1, 0, 1, 1, 0] body3
theorem cd_c3_9 : c3_9 = .region 2 r3_9 false := by kernel_rfl
noncomputable def c3_10 : Code := match c3_4 with
  | .seq x _ => x
  | _ => .skip
noncomputable def c3_11 : Code := match c3_4 with
  | .seq _ x => x
  | _ => .skip
theorem cd_c3_4 : c3_4 = .seq c3_10 c3_11 := by kernel_rfl
noncomputable def r3_10 : Array Oper := regAt [1, 1, 0] body3
theorem cd_c3_10 : c3_10 = .region 3 r3_10 false := by kernel_rfl
noncomputable def c3_12 : Code := match c3_11 with
  | .seq x _ => x
  | _ => .skip
noncomputable def c3_13 : Code := match c3_11 with
  | .seq _ x => x
  | _ => .skip
theorem cd_c3_11 : c3_11 = .seq c3_12 c3_13 := by kernel_rfl
noncomputable def r3_12 : Array Oper := regAt [1, 1, 1, 0] body3
theorem cd_c3_12 : c3_12 = .region 4 r3_12 false := by kernel_rfl
noncomputable def c3_14 : Code := match c3_13 with
  | .seq x _ => x
  | _ => .skip
noncomputable def c3_15 : Code := match c3_13 with
  | .seq _ x => x
  | _ => .skip
theorem cd_c3_13 : c3_13 = .seq c3_14 c3_15 := by kernel_rfl
noncomputable def r3_14 : Array Oper := regAt [1, 1, 1, 1, 0] body3
theorem cd_c3_14 : c3_14 = .region 5 r3_14 false := by kernel_rfl
noncomputable def c3_16 : Code := match c3_15 with
  | .seq x _ => x
  | _ => .skip
noncomputable def c3_17 : Code := match c3_15 with
  | .seq _ x => x
  | _ => .skip
theorem cd_c3_15 : c3_15 = .seq c3_16 c3_17 := by kernel_rfl
noncomputable def r3_16 : Array Oper := regAt [1, 1, 1, 1, 1, 0] body3
theorem cd_c3_16 : c3_16 = .region 6 r3_16 false := by kernel_rfl
noncomputable def c3_18 : Code := match c3_17 with
  | .seq x _ => x
  | _ => .skip
noncomputable def c3_19 : Code := match c3_17 with
  | .seq _ x => x
  | _ => .skip
theorem cd_c3_17 : c3_17 = .seq c3_18 c3_19 := by kernel_rfl
noncomputable def c3_20 : Code := match c3_18 with
  | .seq x _ => x
  | _ => .skip
noncomputable def c3_21 : Code := match c3_18 with
  | .seq _ x => x
  | _ => .skip
theorem cd_c3_18 : c3_18 = .seq c3_20 c3_21 := by kernel_rfl
noncomputable def r3_20 : Array Oper := regAt [1, 1, 1, 1, 1, 1, 0, 0] body3
theorem cd_c3_20 : c3_20 = .region 7 r3_20 false := by kernel_rfl
noncomputable def c3_22 : Code := match c3_21 with
  | .block _ x => x
  | _ => .skip
theorem cd_c3_21 : c3_21 = .block 0 c3_22 := by kernel_rfl
noncomputable def c3_23 : Code := match c3_22 with
  | .loop x => x
  | _ => .skip
theorem cd_c3_22 : c3_22 = .loop c3_23 := by kernel_rfl
noncomputable def c3_24 : Code := match c3_23 with
  | .seq x _ => x
  | _ => .skip
noncomputable def c3_25 : Code := match c3_23 with
  | .seq _ x => x
  | _ => .skip
theorem cd_c3_23 : c3_23 = .seq c3_24 c3_25 := by kernel_rfl
noncomputable def c3_26 : Code := match c3_24 with
  | .seq x _ => x
  | _ => .skip
noncomputable def c3_27 : Code := match c3_24 with
  | .seq _ x => x
  | _ => .skip
theorem cd_c3_24 : c3_24 = .seq c3_26 c3_27 := by kernel_rfl
noncomputable def r3_26 : Array Oper := regAt [1, 1, 1, 1, 1, 1, 0, 1, 1, 0, 0, 0] body3
theorem cd_c3_26 : c3_26 = .region 8 r3_26 false := by kernel_rfl
theorem cd_c3_27 : c3_27 = .cond (.tmp 37) .skip (.exit 0) := by kernel_rfl
noncomputable def c3_29 : Code := match c3_25 with
  | .seq x _ => x
  | _ => .skip
noncomputable def c3_30 : Code := match c3_25 with
  | .seq _ x => x
  | _ => .skip
theorem cd_c3_25 : c3_25 = .seq c3_29 c3_30 := by kernel_rfl
noncomputable def c3_31 : Code := match c3_29 with
  | .block _ x => x
  | _ => .skip
theorem cd_c3_29 : c3_29 = .block 1 c3_31 := by kernel_rfl
noncomputable def r3_31 : Array Oper := regAt [1, 1, 1, 1, 1, 1, 0, 1, 1, 0, 1, 0, 1] body3
theorem cd_c3_31 : c3_31 = .region 10 r3_31 false := by kernel_rfl
noncomputable def r3_30 : Array Oper := regAt [1, 1, 1, 1, 1, 1, 0, 1, 1, 0, 1, 1] body3
theorem cd_c3_30 : c3_30 = .region 9 r3_30 false := by kernel_rfl
noncomputable def c3_32 : Code := match c3_19 with
  | .seq x _ => x
  | _ => .skip
theorem cd_c3_19 : c3_19 = .seq c3_32 .ret := by kernel_rfl
noncomputable def r3_32 : Array Oper := regAt [1, 1, 1, 1, 1, 1, 1, 0] body3
theorem cd_c3_32 : c3_32 = .region 11 r3_32 false := by kernel_rfl
noncomputable def body4 : Code := match Try.f4.body with
  | some c => c
  | none => .skip
noncomputable def c4_1 : Code := match code4 with
  | .seq x _ => x
  | _ => .skip
noncomputable def c4_2 : Code := match code4 with
  | .seq _ x => x
  | _ => .skip
theorem cd_code4 : code4 = .seq c4_1 c4_2 := by kernel_rfl
noncomputable def r4_1 : Array Oper := regAt [0] body4
theorem cd_c4_1 : c4_1 = .region 0 r4_1 false := by kernel_rfl
noncomputable def c4_3 : Code := match c4_2 with
  | .seq x _ => x
  | _ => .skip
noncomputable def c4_4 : Code := match c4_2 with
  | .seq _ x => x
  | _ => .skip
theorem cd_c4_2 : c4_2 = .seq c4_3 c4_4 := by kernel_rfl
noncomputable def r4_3 : Array Oper := regAt [1, 0] body4
theorem cd_c4_3 : c4_3 = .region 1 r4_3 false := by kernel_rfl
noncomputable def c4_5 : Code := match c4_4 with
  | .seq x _ => x
  | _ => .skip
noncomputable def c4_6 : Code := match c4_4 with
  | .seq _ x => x
  | _ => .skip
theorem cd_c4_4 : c4_4 = .seq c4_5 c4_6 := by kernel_rfl
noncomputable def r4_5 : Array Oper := regAt [1, 1, 0] body4
theorem cd_c4_5 : c4_5 = .region 2 r4_5 false := by kernel_rfl
noncomputable def c4_7 : Code := match c4_6 with
  | .seq x _ => x
  | _ => .skip
noncomputable def c4_8 : Code := match c4_6 with
  | .seq _ x => x
  | _ => .skip
theorem cd_c4_6 : c4_6 = .seq c4_7 c4_8 := by kernel_rfl
noncomputable def r4_7 : Array Oper := regAt [1, 1, 1, 0] body4
theorem cd_c4_7 : c4_7 = .region 3 r4_7 false := by kernel_rfl
noncomputable def c4_9 : Code := match c4_8 with
  | .seq x _ => x
  | _ => .skip
noncomputable def c4_10 : Code := match c4_8 with
  | .seq _ x => x
  | _ => .skip
theorem cd_c4_8 : c4_8 = .seq c4_9 c4_10 := by kernel_rfl
noncomputable def r4_9 : Array Oper := regAt [1, 1, 1, 1, 0] body4
theorem cd_c4_9 : c4_9 = .region 4 r4_9 false := by kernel_rfl
noncomputable def c4_11 : Code := match c4_10 with
  | .seq x _ => x
  | _ => .skip
theorem cd_c4_10 : c4_10 = .seq c4_11 .ret := by kernel_rfl
noncomputable def r4_11 : Array Oper := regAt [1, 1, 1, 1, 1, 0] body4
theorem cd_c4_11 : c4_11 = .region 5 r4_11 false := by kernel_rfl
noncomputable def body5 : Code := match Try.f5.body with
  | some c => c
  | none => .skip
noncomputable def c5_1 : Code := match code5 with
  | .seq x _ => x
  | _ => .skip
noncomputable def c5_2 : Code := match code5 with
  | .seq _ x => x
  | _ => .skip
theorem cd_code5 : code5 = .seq c5_1 c5_2 := by kernel_rfl
noncomputable def r5_1 : Array Oper := regAt [0] body5
theorem cd_c5_1 : c5_1 = .region 0 r5_1 false := by kernel_rfl
noncomputable def c5_3 : Code := match c5_2 with
  | .seq x _ => x
  | _ => .skip
noncomputable def c5_4 : Code := match c5_2 with
  | .seq _ x => x
  | _ => .skip
theorem cd_c5_2 : c5_2 = .seq c5_3 c5_4 := by kernel_rfl
noncomputable def c5_5 : Code := match c5_3 with
  | .seq x _ => x
  | _ => .skip
noncomputable def c5_6 : Code := match c5_3 with
  | .seq _ x => x
  | _ => .skip
theorem cd_c5_3 : c5_3 = .seq c5_5 c5_6 := by kernel_rfl
noncomputable def r5_5 : Array Oper := regAt [1, 0, 0] body5
theorem cd_c5_5 : c5_5 = .region 1 r5_5 false := by kernel_rfl
noncomputable def c5_7 : Code := match c5_6 with
  | .cond _ x _ => x
  | _ => .skip
theorem cd_c5_6 : c5_6 = .cond (.tmp 17) c5_7 .skip := by kernel_rfl
noncomputable def c5_9 : Code := match c5_7 with
  | .seq x _ => x
  | _ => .skip
theorem cd_c5_7 : c5_7 = .seq c5_9 .ret := by kernel_rfl
noncomputable def r5_9 : Array Oper := regAt [1, 0, 1, 1, 0] body5
theorem cd_c5_9 : c5_9 = .region 2 r5_9 false := by kernel_rfl
noncomputable def c5_10 : Code := match c5_4 with
  | .seq x _ => x
  | _ => .skip
noncomputable def c5_11 : Code := match c5_4 with
  | .seq _ x => x
  | _ => .skip
theorem cd_c5_4 : c5_4 = .seq c5_10 c5_11 := by kernel_rfl
noncomputable def r5_10 : Array Oper := regAt [1, 1, 0] body5
theorem cd_c5_10 : c5_10 = .region 3 r5_10 false := by kernel_rfl
noncomputable def c5_12 : Code := match c5_11 with
  | .seq x _ => x
  | _ => .skip
noncomputable def c5_13 : Code := match c5_11 with
  | .seq _ x => x
  | _ => .skip
theorem cd_c5_11 : c5_11 = .seq c5_12 c5_13 := by kernel_rfl
noncomputable def r5_12 : Array Oper := regAt [1, 1, 1, 0] body5
theorem cd_c5_12 : c5_12 = .region 4 r5_12 false := by kernel_rfl
noncomputable def c5_14 : Code := match c5_13 with
  | .seq x _ => x
  | _ => .skip
noncomputable def c5_15 : Code := match c5_13 with
  | .seq _ x => x
  | _ => .skip
theorem cd_c5_13 : c5_13 = .seq c5_14 c5_15 := by kernel_rfl
noncomputable def r5_14 : Array Oper := regAt [1, 1, 1, 1, 0] body5
theorem cd_c5_14 : c5_14 = .region 5 r5_14 false := by kernel_rfl
noncomputable def c5_16 : Code := match c5_15 with
  | .seq x _ => x
  | _ => .skip
noncomputable def c5_17 : Code := match c5_15 with
  | .seq _ x => x
  | _ => .skip
theorem cd_c5_15 : c5_15 = .seq c5_16 c5_17 := by kernel_rfl
noncomputable def r5_16 : Array Oper := regAt [1, 1, 1, 1, 1, 0] body5
theorem cd_c5_16 : c5_16 = .region 6 r5_16 false := by kernel_rfl
noncomputable def c5_18 : Code := match c5_17 with
  | .seq x _ => x
  | _ => .skip
noncomputable def c5_19 : Code := match c5_17 with
  | .seq _ x => x
  | _ => .skip
theorem cd_c5_17 : c5_17 = .seq c5_18 c5_19 := by kernel_rfl
noncomputable def r5_18 : Array Oper := regAt [1, 1, 1, 1, 1, 1, 0] body5
theorem cd_c5_18 : c5_18 = .region 7 r5_18 false := by kernel_rfl
noncomputable def c5_20 : Code := match c5_19 with
  | .seq x _ => x
  | _ => .skip
noncomputable def c5_21 : Code := match c5_19 with
  | .seq _ x => x
  | _ => .skip
theorem cd_c5_19 : c5_19 = .seq c5_20 c5_21 := by kernel_rfl
noncomputable def c5_22 : Code := match c5_20 with
  | .seq x _ => x
  | _ => .skip
noncomputable def c5_23 : Code := match c5_20 with
  | .seq _ x => x
  | _ => .skip
theorem cd_c5_20 : c5_20 = .seq c5_22 c5_23 := by kernel_rfl
noncomputable def r5_22 : Array Oper := regAt [1, 1, 1, 1, 1, 1, 1, 0, 0] body5
theorem cd_c5_22 : c5_22 = .region 8 r5_22 false := by kernel_rfl
noncomputable def c5_24 : Code := match c5_23 with
  | .block _ x => x
  | _ => .skip
theorem cd_c5_23 : c5_23 = .block 0 c5_24 := by kernel_rfl
noncomputable def c5_25 : Code := match c5_24 with
  | .loop x => x
  | _ => .skip
theorem cd_c5_24 : c5_24 = .loop c5_25 := by kernel_rfl
noncomputable def c5_26 : Code := match c5_25 with
  | .seq x _ => x
  | _ => .skip
noncomputable def c5_27 : Code := match c5_25 with
  | .seq _ x => x
  | _ => .skip
theorem cd_c5_25 : c5_25 = .seq c5_26 c5_27 := by kernel_rfl
noncomputable def c5_28 : Code := match c5_26 with
  | .seq x _ => x
  | _ => .skip
noncomputable def c5_29 : Code := match c5_26 with
  | .seq _ x => x
  | _ => .skip
theorem cd_c5_26 : c5_26 = .seq c5_28 c5_29 := by kernel_rfl
noncomputable def r5_28 : Array Oper := regAt [1, 1, 1, 1, 1, 1, 1, 0, 1, 1, 0, 0, 0] body5
theorem cd_c5_28 : c5_28 = .region 9 r5_28 false := by kernel_rfl
theorem cd_c5_29 : c5_29 = .cond (.tmp 51) .skip (.exit 0) := by kernel_rfl
noncomputable def c5_31 : Code := match c5_27 with
  | .seq x _ => x
  | _ => .skip
noncomputable def c5_32 : Code := match c5_27 with
  | .seq _ x => x
  | _ => .skip
theorem cd_c5_27 : c5_27 = .seq c5_31 c5_32 := by kernel_rfl
noncomputable def c5_33 : Code := match c5_31 with
  | .block _ x => x
  | _ => .skip
theorem cd_c5_31 : c5_31 = .block 1 c5_33 := by kernel_rfl
noncomputable def c5_34 : Code := match c5_33 with
  | .seq x _ => x
  | _ => .skip
noncomputable def c5_35 : Code := match c5_33 with
  | .seq _ x => x
  | _ => .skip
theorem cd_c5_33 : c5_33 = .seq c5_34 c5_35 := by kernel_rfl
noncomputable def r5_34 : Array Oper := regAt [1, 1, 1, 1, 1, 1, 1, 0, 1, 1, 0, 1, 0, 1, 0] body5
theorem cd_c5_34 : c5_34 = .region 11 r5_34 false := by kernel_rfl
noncomputable def c5_36 : Code := match c5_35 with
  | .seq x _ => x
  | _ => .skip
noncomputable def c5_37 : Code := match c5_35 with
  | .seq _ x => x
  | _ => .skip
theorem cd_c5_35 : c5_35 = .seq c5_36 c5_37 := by kernel_rfl
noncomputable def r5_36 : Array Oper := regAt [1, 1, 1, 1, 1, 1, 1, 0, 1, 1, 0, 1, 0, 1, 1, 0] body5
theorem cd_c5_36 : c5_36 = .region 12 r5_36 false := by kernel_rfl
noncomputable def c5_38 : Code := match c5_37 with
  | .seq x _ => x
  | _ => .skip
noncomputable def c5_39 : Code := match c5_37 with
  | .seq _ x => x
  | _ => .skip
theorem cd_c5_37 : c5_37 = .seq c5_38 c5_39 := by kernel_rfl
noncomputable def r5_38 : Array Oper := regAt [1, 1, 1, 1, 1, 1, 1, 0, 1, 1, 0, 1, 0, 1, 1, 1, 0] body5
theorem cd_c5_38 : c5_38 = .region 13 r5_38 false := by kernel_rfl
noncomputable def r5_39 : Array Oper := regAt [1, 1, 1, 1, 1, 1, 1, 0, 1, 1, 0, 1, 0, 1, 1, 1, 1] body5
theorem cd_c5_39 : c5_39 = .region 14 r5_39 false := by kernel_rfl
noncomputable def r5_32 : Array Oper := regAt [1, 1, 1, 1, 1, 1, 1, 0, 1, 1, 0, 1, 1] body5
theorem cd_c5_32 : c5_32 = .region 10 r5_32 false := by kernel_rfl
noncomputable def c5_40 : Code := match c5_21 with
  | .seq x _ => x
  | _ => .skip
theorem cd_c5_21 : c5_21 = .seq c5_40 .ret := by kernel_rfl
noncomputable def r5_40 : Array Oper := regAt [1, 1, 1, 1, 1, 1, 1, 1, 0] body5
theorem cd_c5_40 : c5_40 = .region 15 r5_40 false := by kernel_rfl
noncomputable def body6 : Code := match Try.f6.body with
  | some c => c
  | none => .skip
noncomputable def c6_1 : Code := match code6 with
  | .seq x _ => x
  | _ => .skip
noncomputable def c6_2 : Code := match code6 with
  | .seq _ x => x
  | _ => .skip
theorem cd_code6 : code6 = .seq c6_1 c6_2 := by kernel_rfl
noncomputable def r6_1 : Array Oper := regAt [0] body6
theorem cd_c6_1 : c6_1 = .region 0 r6_1 false := by kernel_rfl
noncomputable def c6_3 : Code := match c6_2 with
  | .seq x _ => x
  | _ => .skip
noncomputable def c6_4 : Code := match c6_2 with
  | .seq _ x => x
  | _ => .skip
theorem cd_c6_2 : c6_2 = .seq c6_3 c6_4 := by kernel_rfl
noncomputable def r6_3 : Array Oper := regAt [1, 0] body6
theorem cd_c6_3 : c6_3 = .region 1 r6_3 false := by kernel_rfl
noncomputable def c6_5 : Code := match c6_4 with
  | .seq x _ => x
  | _ => .skip
noncomputable def c6_6 : Code := match c6_4 with
  | .seq _ x => x
  | _ => .skip
theorem cd_c6_4 : c6_4 = .seq c6_5 c6_6 := by kernel_rfl
noncomputable def c6_7 : Code := match c6_5 with
  | .seq x _ => x
  | _ => .skip
noncomputable def c6_8 : Code := match c6_5 with
  | .seq _ x => x
  | _ => .skip
theorem cd_c6_5 : c6_5 = .seq c6_7 c6_8 := by kernel_rfl
noncomputable def r6_7 : Array Oper := regAt [1, 1, 0, 0] body6
theorem cd_c6_7 : c6_7 = .region 2 r6_7 false := by kernel_rfl
noncomputable def c6_9 : Code := match c6_8 with
  | .cond _ x _ => x
  | _ => .skip
theorem cd_c6_8 : c6_8 = .cond (.tmp 12) c6_9 .skip := by kernel_rfl
noncomputable def c6_11 : Code := match c6_9 with
  | .seq x _ => x
  | _ => .skip
theorem cd_c6_9 : c6_9 = .seq c6_11 .ret := by kernel_rfl
noncomputable def r6_11 : Array Oper := regAt [1, 1, 0, 1, 1, 0] body6
theorem cd_c6_11 : c6_11 = .region 3 r6_11 false := by kernel_rfl
noncomputable def c6_12 : Code := match c6_6 with
  | .seq x _ => x
  | _ => .skip
noncomputable def c6_13 : Code := match c6_6 with
  | .seq _ x => x
  | _ => .skip
theorem cd_c6_6 : c6_6 = .seq c6_12 c6_13 := by kernel_rfl
noncomputable def r6_12 : Array Oper := regAt [1, 1, 1, 0] body6
theorem cd_c6_12 : c6_12 = .region 4 r6_12 false := by kernel_rfl
noncomputable def c6_14 : Code := match c6_13 with
  | .seq x _ => x
  | _ => .skip
noncomputable def c6_15 : Code := match c6_13 with
  | .seq _ x => x
  | _ => .skip
theorem cd_c6_13 : c6_13 = .seq c6_14 c6_15 := by kernel_rfl
noncomputable def c6_16 : Code := match c6_14 with
  | .seq x _ => x
  | _ => .skip
noncomputable def c6_17 : Code := match c6_14 with
  | .seq _ x => x
  | _ => .skip
theorem cd_c6_14 : c6_14 = .seq c6_16 c6_17 := by kernel_rfl
noncomputable def r6_16 : Array Oper := regAt [1, 1, 1, 1, 0, 0] body6
theorem cd_c6_16 : c6_16 = .region 5 r6_16 false := by kernel_rfl
noncomputable def c6_18 : Code := match c6_17 with
  | .cond _ x _ => x
  | _ => .skip
theorem cd_c6_17 : c6_17 = .cond (.tmp 20) c6_18 .skip := by kernel_rfl
noncomputable def c6_20 : Code := match c6_18 with
  | .seq x _ => x
  | _ => .skip
theorem cd_c6_18 : c6_18 = .seq c6_20 .ret := by kernel_rfl
noncomputable def r6_20 : Array Oper := regAt [1, 1, 1, 1, 0, 1, 1, 0] body6
theorem cd_c6_20 : c6_20 = .region 6 r6_20 false := by kernel_rfl
noncomputable def c6_21 : Code := match c6_15 with
  | .seq x _ => x
  | _ => .skip
noncomputable def c6_22 : Code := match c6_15 with
  | .seq _ x => x
  | _ => .skip
theorem cd_c6_15 : c6_15 = .seq c6_21 c6_22 := by kernel_rfl
noncomputable def r6_21 : Array Oper := regAt [1, 1, 1, 1, 1, 0] body6
theorem cd_c6_21 : c6_21 = .region 7 r6_21 false := by kernel_rfl
noncomputable def c6_23 : Code := match c6_22 with
  | .seq x _ => x
  | _ => .skip
noncomputable def c6_24 : Code := match c6_22 with
  | .seq _ x => x
  | _ => .skip
theorem cd_c6_22 : c6_22 = .seq c6_23 c6_24 := by kernel_rfl
noncomputable def r6_23 : Array Oper := regAt [1, 1, 1, 1, 1, 1, 0] body6
theorem cd_c6_23 : c6_23 = .region 8 r6_23 false := by kernel_rfl
noncomputable def c6_25 : Code := match c6_24 with
  | .seq x _ => x
  | _ => .skip
noncomputable def c6_26 : Code := match c6_24 with
  | .seq _ x => x
  | _ => .skip
theorem cd_c6_24 : c6_24 = .seq c6_25 c6_26 := by kernel_rfl
noncomputable def c6_27 : Code := match c6_25 with
  | .seq x _ => x
  | _ => .skip
noncomputable def c6_28 : Code := match c6_25 with
  | .seq _ x => x
  | _ => .skip
theorem cd_c6_25 : c6_25 = .seq c6_27 c6_28 := by kernel_rfl
noncomputable def r6_27 : Array Oper := regAt [1, 1, 1, 1, 1, 1, 1, 0, 0] body6
theorem cd_c6_27 : c6_27 = .region 9 r6_27 false := by kernel_rfl
noncomputable def c6_29 : Code := match c6_28 with
  | .block _ x => x
  | _ => .skip
theorem cd_c6_28 : c6_28 = .block 0 c6_29 := by kernel_rfl
noncomputable def c6_30 : Code := match c6_29 with
  | .loop x => x
  | _ => .skip
theorem cd_c6_29 : c6_29 = .loop c6_30 := by kernel_rfl
noncomputable def c6_31 : Code := match c6_30 with
  | .seq x _ => x
  | _ => .skip
noncomputable def c6_32 : Code := match c6_30 with
  | .seq _ x => x
  | _ => .skip
theorem cd_c6_30 : c6_30 = .seq c6_31 c6_32 := by kernel_rfl
noncomputable def c6_33 : Code := match c6_31 with
  | .seq x _ => x
  | _ => .skip
noncomputable def c6_34 : Code := match c6_31 with
  | .seq _ x => x
  | _ => .skip
theorem cd_c6_31 : c6_31 = .seq c6_33 c6_34 := by kernel_rfl
noncomputable def r6_33 : Array Oper := regAt [1, 1, 1, 1, 1, 1, 1, 0, 1, 1, 0, 0, 0] body6
theorem cd_c6_33 : c6_33 = .region 10 r6_33 false := by kernel_rfl
theorem cd_c6_34 : c6_34 = .cond (.tmp 35) .skip (.exit 0) := by kernel_rfl
noncomputable def c6_36 : Code := match c6_32 with
  | .seq x _ => x
  | _ => .skip
noncomputable def c6_37 : Code := match c6_32 with
  | .seq _ x => x
  | _ => .skip
theorem cd_c6_32 : c6_32 = .seq c6_36 c6_37 := by kernel_rfl
noncomputable def c6_38 : Code := match c6_36 with
  | .block _ x => x
  | _ => .skip
theorem cd_c6_36 : c6_36 = .block 1 c6_38 := by kernel_rfl
noncomputable def r6_38 : Array Oper := regAt [1, 1, 1, 1, 1, 1, 1, 0, 1, 1, 0, 1, 0, 1] body6
theorem cd_c6_38 : c6_38 = .region 12 r6_38 false := by kernel_rfl
noncomputable def r6_37 : Array Oper := regAt [1, 1, 1, 1, 1, 1, 1, 0, 1, 1, 0, 1, 1] body6
theorem cd_c6_37 : c6_37 = .region 11 r6_37 false := by kernel_rfl
noncomputable def c6_39 : Code := match c6_26 with
  | .seq x _ => x
  | _ => .skip
theorem cd_c6_26 : c6_26 = .seq c6_39 .ret := by kernel_rfl
noncomputable def r6_39 : Array Oper := regAt [1, 1, 1, 1, 1, 1, 1, 1, 0] body6
theorem cd_c6_39 : c6_39 = .region 13 r6_39 false := by kernel_rfl
noncomputable def body7 : Code := match Try.f7.body with
  | some c => c
  | none => .skip
noncomputable def c7_1 : Code := match code7 with
  | .seq x _ => x
  | _ => .skip
noncomputable def c7_2 : Code := match code7 with
  | .seq _ x => x
  | _ => .skip
theorem cd_code7 : code7 = .seq c7_1 c7_2 := by kernel_rfl
noncomputable def r7_1 : Array Oper := regAt [0] body7
theorem cd_c7_1 : c7_1 = .region 0 r7_1 false := by kernel_rfl
noncomputable def c7_3 : Code := match c7_2 with
  | .seq x _ => x
  | _ => .skip
noncomputable def c7_4 : Code := match c7_2 with
  | .seq _ x => x
  | _ => .skip
theorem cd_c7_2 : c7_2 = .seq c7_3 c7_4 := by kernel_rfl
noncomputable def r7_3 : Array Oper := regAt [1, 0] body7
theorem cd_c7_3 : c7_3 = .region 1 r7_3 false := by kernel_rfl
noncomputable def c7_5 : Code := match c7_4 with
  | .seq x _ => x
  | _ => .skip
noncomputable def c7_6 : Code := match c7_4 with
  | .seq _ x => x
  | _ => .skip
theorem cd_c7_4 : c7_4 = .seq c7_5 c7_6 := by kernel_rfl
noncomputable def c7_7 : Code := match c7_5 with
  | .seq x _ => x
  | _ => .skip
noncomputable def c7_8 : Code := match c7_5 with
  | .seq _ x => x
  | _ => .skip
theorem cd_c7_5 : c7_5 = .seq c7_7 c7_8 := by kernel_rfl
noncomputable def r7_7 : Array Oper := regAt [1, 1, 0, 0] body7
theorem cd_c7_7 : c7_7 = .region 2 r7_7 false := by kernel_rfl
noncomputable def c7_9 : Code := match c7_8 with
  | .cond _ x _ => x
  | _ => .skip
theorem cd_c7_8 : c7_8 = .cond (.tmp 25) c7_9 .skip := by kernel_rfl
noncomputable def c7_11 : Code := match c7_9 with
  | .seq x _ => x
  | _ => .skip
theorem cd_c7_9 : c7_9 = .seq c7_11 .ret := by kernel_rfl
noncomputable def r7_11 : Array Oper := regAt [1, 1, 0, 1, 1, 0] body7
theorem cd_c7_11 : c7_11 = .region 3 r7_11 false := by kernel_rfl
noncomputable def c7_12 : Code := match c7_6 with
  | .seq x _ => x
  | _ => .skip
noncomputable def c7_13 : Code := match c7_6 with
  | .seq _ x => x
  | _ => .skip
theorem cd_c7_6 : c7_6 = .seq c7_12 c7_13 := by kernel_rfl
noncomputable def r7_12 : Array Oper := regAt [1, 1, 1, 0] body7
theorem cd_c7_12 : c7_12 = .region 4 r7_12 false := by kernel_rfl
noncomputable def c7_14 : Code := match c7_13 with
  | .seq x _ => x
  | _ => .skip
noncomputable def c7_15 : Code := match c7_13 with
  | .seq _ x => x
  | _ => .skip
theorem cd_c7_13 : c7_13 = .seq c7_14 c7_15 := by kernel_rfl
noncomputable def r7_14 : Array Oper := regAt [1, 1, 1, 1, 0] body7
theorem cd_c7_14 : c7_14 = .region 5 r7_14 false := by kernel_rfl
noncomputable def c7_16 : Code := match c7_15 with
  | .seq x _ => x
  | _ => .skip
noncomputable def c7_17 : Code := match c7_15 with
  | .seq _ x => x
  | _ => .skip
theorem cd_c7_15 : c7_15 = .seq c7_16 c7_17 := by kernel_rfl
noncomputable def c7_18 : Code := match c7_16 with
  | .seq x _ => x
  | _ => .skip
noncomputable def c7_19 : Code := match c7_16 with
  | .seq _ x => x
  | _ => .skip
theorem cd_c7_16 : c7_16 = .seq c7_18 c7_19 := by kernel_rfl
noncomputable def r7_18 : Array Oper := regAt [1, 1, 1, 1, 1, 0, 0] body7
theorem cd_c7_18 : c7_18 = .region 6 r7_18 false := by kernel_rfl
noncomputable def c7_20 : Code := match c7_19 with
  | .cond _ x _ => x
  | _ => .skip
theorem cd_c7_19 : c7_19 = .cond (.tmp 56) c7_20 .skip := by kernel_rfl
noncomputable def c7_22 : Code := match c7_20 with
  | .seq x _ => x
  | _ => .skip
theorem cd_c7_20 : c7_20 = .seq c7_22 .ret := by kernel_rfl
noncomputable def r7_22 : Array Oper := regAt [1, 1, 1, 1, 1, 0, 1, 1, 0] body7
theorem cd_c7_22 : c7_22 = .region 7 r7_22 false := by kernel_rfl
noncomputable def c7_23 : Code := match c7_17 with
  | .seq x _ => x
  | _ => .skip
noncomputable def c7_24 : Code := match c7_17 with
  | .seq _ x => x
  | _ => .skip
theorem cd_c7_17 : c7_17 = .seq c7_23 c7_24 := by kernel_rfl
noncomputable def r7_23 : Array Oper := regAt [1, 1, 1, 1, 1, 1, 0] body7
theorem cd_c7_23 : c7_23 = .region 8 r7_23 false := by kernel_rfl
noncomputable def c7_25 : Code := match c7_24 with
  | .seq x _ => x
  | _ => .skip
noncomputable def c7_26 : Code := match c7_24 with
  | .seq _ x => x
  | _ => .skip
theorem cd_c7_24 : c7_24 = .seq c7_25 c7_26 := by kernel_rfl
noncomputable def c7_27 : Code := match c7_25 with
  | .seq x _ => x
  | _ => .skip
noncomputable def c7_28 : Code := match c7_25 with
  | .seq _ x => x
  | _ => .skip
theorem cd_c7_25 : c7_25 = .seq c7_27 c7_28 := by kernel_rfl
noncomputable def r7_27 : Array Oper := regAt [1, 1, 1, 1, 1, 1, 1, 0, 0] body7
theorem cd_c7_27 : c7_27 = .region 9 r7_27 false := by kernel_rfl
noncomputable def c7_29 : Code := match c7_28 with
  | .cond _ x _ => x
  | _ => .skip
theorem cd_c7_28 : c7_28 = .cond (.tmp 63) c7_29 .skip := by kernel_rfl
noncomputable def c7_31 : Code := match c7_29 with
  | .seq x _ => x
  | _ => .skip
theorem cd_c7_29 : c7_29 = .seq c7_31 .ret := by kernel_rfl
noncomputable def r7_31 : Array Oper := regAt [1, 1, 1, 1, 1, 1, 1, 0, 1, 1, 0] body7
theorem cd_c7_31 : c7_31 = .region 10 r7_31 false := by kernel_rfl
noncomputable def c7_32 : Code := match c7_26 with
  | .seq x _ => x
  | _ => .skip
noncomputable def c7_33 : Code := match c7_26 with
  | .seq _ x => x
  | _ => .skip
theorem cd_c7_26 : c7_26 = .seq c7_32 c7_33 := by kernel_rfl
noncomputable def r7_32 : Array Oper := regAt [1, 1, 1, 1, 1, 1, 1, 1, 0] body7
theorem cd_c7_32 : c7_32 = .region 11 r7_32 false := by kernel_rfl
noncomputable def c7_34 : Code := match c7_33 with
  | .seq x _ => x
  | _ => .skip
noncomputable def c7_35 : Code := match c7_33 with
  | .seq _ x => x
  | _ => .skip
theorem cd_c7_33 : c7_33 = .seq c7_34 c7_35 := by kernel_rfl
noncomputable def r7_34 : Array Oper := regAt [1, 1, 1, 1, 1, 1, 1, 1, 1, 0] body7
theorem cd_c7_34 : c7_34 = .region 12 r7_34 false := by kernel_rfl
noncomputable def c7_36 : Code := match c7_35 with
  | .seq x _ => x
  | _ => .skip
noncomputable def c7_37 : Code := match c7_35 with
  | .seq _ x => x
  | _ => .skip
theorem cd_c7_35 : c7_35 = .seq c7_36 c7_37 := by kernel_rfl
noncomputable def c7_38 : Code := match c7_36 with
  | .block _ x => x
  | _ => .skip
theorem cd_c7_36 : c7_36 = .block 0 c7_38 := by kernel_rfl
noncomputable def c7_39 : Code := match c7_38 with
  | .loop x => x
  | _ => .skip
theorem cd_c7_38 : c7_38 = .loop c7_39 := by kernel_rfl
noncomputable def c7_40 : Code := match c7_39 with
  | .seq x _ => x
  | _ => .skip
noncomputable def c7_41 : Code := match c7_39 with
  | .seq _ x => x
  | _ => .skip
theorem cd_c7_39 : c7_39 = .seq c7_40 c7_41 := by kernel_rfl
noncomputable def c7_42 : Code := match c7_40 with
  | .seq x _ => x
  | _ => .skip
noncomputable def c7_43 : Code := match c7_40 with
  | .seq _ x => x
  | _ => .skip
theorem cd_c7_40 : c7_40 = .seq c7_42 c7_43 := by kernel_rfl
noncomputable def r7_42 : Array Oper := regAt [1, 1, 1, 1, 1, 1, 1, 1, 1, 1, 0, 1, 0, 0, 0] body7
theorem cd_c7_42 : c7_42 = .region 13 r7_42 false := by kernel_rfl
theorem cd_c7_43 : c7_43 = .cond (.tmp 85) .skip (.exit 0) := by kernel_rfl
noncomputable def c7_45 : Code := match c7_41 with
  | .block _ x => x
  | _ => .skip
theorem cd_c7_41 : c7_41 = .block 1 c7_45 := by kernel_rfl
noncomputable def c7_46 : Code := match c7_45 with
  | .seq x _ => x
  | _ => .skip
noncomputable def c7_47 : Code := match c7_45 with
  | .seq _ x => x
  | _ => .skip
theorem cd_c7_45 : c7_45 = .seq c7_46 c7_47 := by kernel_rfl
noncomputable def r7_46 : Array Oper := regAt [1, 1, 1, 1, 1, 1, 1, 1, 1, 1, 0, 1, 0, 1, 1, 0] body7
theorem cd_c7_46 : c7_46 = .region 14 r7_46 false := by kernel_rfl
noncomputable def r7_47 : Array Oper := regAt [1, 1, 1, 1, 1, 1, 1, 1, 1, 1, 0, 1, 0, 1, 1, 1] body7
theorem cd_c7_47 : c7_47 = .region 15 r7_47 false := by kernel_rfl
noncomputable def c7_48 : Code := match c7_37 with
  | .seq x _ => x
  | _ => .skip
noncomputable def c7_49 : Code := match c7_37 with
  | .seq _ x => x
  | _ => .skip
theorem cd_c7_37 : c7_37 = .seq c7_48 c7_49 := by kernel_rfl
noncomputable def r7_48 : Array Oper := regAt [1, 1, 1, 1, 1, 1, 1, 1, 1, 1, 1, 0] body7
theorem cd_c7_48 : c7_48 = .region 16 r7_48 false := by kernel_rfl
noncomputable def c7_50 : Code := match c7_49 with
  | .seq x _ => x
  | _ => .skip
theorem cd_c7_49 : c7_49 = .seq c7_50 .ret := by kernel_rfl
noncomputable def r7_50 : Array Oper := regAt [1, 1, 1, 1, 1, 1, 1, 1, 1, 1, 1, 1, 0] body7
theorem cd_c7_50 : c7_50 = .region 17 r7_50 false := by kernel_rfl
noncomputable def body8 : Code := match Try.f8.body with
  | some c => c
  | none => .skip
noncomputable def c8_1 : Code := match code8 with
  | .seq x _ => x
  | _ => .skip
noncomputable def c8_2 : Code := match code8 with
  | .seq _ x => x
  | _ => .skip
theorem cd_code8 : code8 = .seq c8_1 c8_2 := by kernel_rfl
noncomputable def r8_1 : Array Oper := regAt [0] body8
theorem cd_c8_1 : c8_1 = .region 0 r8_1 false := by kernel_rfl
noncomputable def c8_3 : Code := match c8_2 with
  | .seq x _ => x
  | _ => .skip
noncomputable def c8_4 : Code := match c8_2 with
  | .seq _ x => x
  | _ => .skip
theorem cd_c8_2 : c8_2 = .seq c8_3 c8_4 := by kernel_rfl
noncomputable def r8_3 : Array Oper := regAt [1, 0] body8
theorem cd_c8_3 : c8_3 = .region 1 r8_3 false := by kernel_rfl
noncomputable def c8_5 : Code := match c8_4 with
  | .seq x _ => x
  | _ => .skip
noncomputable def c8_6 : Code := match c8_4 with
  | .seq _ x => x
  | _ => .skip
theorem cd_c8_4 : c8_4 = .seq c8_5 c8_6 := by kernel_rfl
noncomputable def r8_5 : Array Oper := regAt [1, 1, 0] body8
theorem cd_c8_5 : c8_5 = .region 2 r8_5 false := by kernel_rfl
noncomputable def c8_7 : Code := match c8_6 with
  | .seq x _ => x
  | _ => .skip
noncomputable def c8_8 : Code := match c8_6 with
  | .seq _ x => x
  | _ => .skip
theorem cd_c8_6 : c8_6 = .seq c8_7 c8_8 := by kernel_rfl
noncomputable def c8_9 : Code := match c8_7 with
  | .seq x _ => x
  | _ => .skip
noncomputable def c8_10 : Code := match c8_7 with
  | .seq _ x => x
  | _ => .skip
theorem cd_c8_7 : c8_7 = .seq c8_9 c8_10 := by kernel_rfl
noncomputable def r8_9 : Array Oper := regAt [1, 1, 1, 0, 0] body8
theorem cd_c8_9 : c8_9 = .region 3 r8_9 false := by kernel_rfl
noncomputable def c8_11 : Code := match c8_10 with
  | .cond _ x _ => x
  | _ => .skip
theorem cd_c8_10 : c8_10 = .cond (.tmp 37) c8_11 .skip := by kernel_rfl
noncomputable def c8_13 : Code := match c8_11 with
  | .seq x _ => x
  | _ => .skip
theorem cd_c8_11 : c8_11 = .seq c8_13 .ret := by kernel_rfl
noncomputable def r8_13 : Array Oper := regAt [1, 1, 1, 0, 1, 1, 0] body8
theorem cd_c8_13 : c8_13 = .region 4 r8_13 false := by kernel_rfl
noncomputable def c8_14 : Code := match c8_8 with
  | .seq x _ => x
  | _ => .skip
noncomputable def c8_15 : Code := match c8_8 with
  | .seq _ x => x
  | _ => .skip
theorem cd_c8_8 : c8_8 = .seq c8_14 c8_15 := by kernel_rfl
noncomputable def r8_14 : Array Oper := regAt [1, 1, 1, 1, 0] body8
theorem cd_c8_14 : c8_14 = .region 5 r8_14 false := by kernel_rfl
noncomputable def c8_16 : Code := match c8_15 with
  | .seq x _ => x
  | _ => .skip
noncomputable def c8_17 : Code := match c8_15 with
  | .seq _ x => x
  | _ => .skip
theorem cd_c8_15 : c8_15 = .seq c8_16 c8_17 := by kernel_rfl
noncomputable def r8_16 : Array Oper := regAt [1, 1, 1, 1, 1, 0] body8
theorem cd_c8_16 : c8_16 = .region 6 r8_16 false := by kernel_rfl
noncomputable def c8_18 : Code := match c8_17 with
  | .seq x _ => x
  | _ => .skip
noncomputable def c8_19 : Code := match c8_17 with
  | .seq _ x => x
  | _ => .skip
theorem cd_c8_17 : c8_17 = .seq c8_18 c8_19 := by kernel_rfl
noncomputable def c8_20 : Code := match c8_18 with
  | .seq x _ => x
  | _ => .skip
noncomputable def c8_21 : Code := match c8_18 with
  | .seq _ x => x
  | _ => .skip
theorem cd_c8_18 : c8_18 = .seq c8_20 c8_21 := by kernel_rfl
noncomputable def r8_20 : Array Oper := regAt [1, 1, 1, 1, 1, 1, 0, 0] body8
theorem cd_c8_20 : c8_20 = .region 7 r8_20 false := by kernel_rfl
noncomputable def c8_22 : Code := match c8_21 with
  | .block _ x => x
  | _ => .skip
theorem cd_c8_21 : c8_21 = .block 0 c8_22 := by kernel_rfl
noncomputable def c8_23 : Code := match c8_22 with
  | .loop x => x
  | _ => .skip
theorem cd_c8_22 : c8_22 = .loop c8_23 := by kernel_rfl
noncomputable def c8_24 : Code := match c8_23 with
  | .seq x _ => x
  | _ => .skip
noncomputable def c8_25 : Code := match c8_23 with
  | .seq _ x => x
  | _ => .skip
theorem cd_c8_23 : c8_23 = .seq c8_24 c8_25 := by kernel_rfl
noncomputable def c8_26 : Code := match c8_24 with
  | .seq x _ => x
  | _ => .skip
noncomputable def c8_27 : Code := match c8_24 with
  | .seq _ x => x
  | _ => .skip
theorem cd_c8_24 : c8_24 = .seq c8_26 c8_27 := by kernel_rfl
noncomputable def r8_26 : Array Oper := regAt [1, 1, 1, 1, 1, 1, 0, 1, 1, 0, 0, 0] body8
theorem cd_c8_26 : c8_26 = .region 8 r8_26 false := by kernel_rfl
theorem cd_c8_27 : c8_27 = .cond (.tmp 45) .skip (.exit 0) := by kernel_rfl
noncomputable def c8_29 : Code := match c8_25 with
  | .seq x _ => x
  | _ => .skip
noncomputable def c8_30 : Code := match c8_25 with
  | .seq _ x => x
  | _ => .skip
theorem cd_c8_25 : c8_25 = .seq c8_29 c8_30 := by kernel_rfl
noncomputable def c8_31 : Code := match c8_29 with
  | .block _ x => x
  | _ => .skip
theorem cd_c8_29 : c8_29 = .block 1 c8_31 := by kernel_rfl
noncomputable def r8_31 : Array Oper := regAt [1, 1, 1, 1, 1, 1, 0, 1, 1, 0, 1, 0, 1] body8
theorem cd_c8_31 : c8_31 = .region 10 r8_31 false := by kernel_rfl
noncomputable def r8_30 : Array Oper := regAt [1, 1, 1, 1, 1, 1, 0, 1, 1, 0, 1, 1] body8
theorem cd_c8_30 : c8_30 = .region 9 r8_30 false := by kernel_rfl
noncomputable def c8_32 : Code := match c8_19 with
  | .seq x _ => x
  | _ => .skip
noncomputable def c8_33 : Code := match c8_19 with
  | .seq _ x => x
  | _ => .skip
theorem cd_c8_19 : c8_19 = .seq c8_32 c8_33 := by kernel_rfl
noncomputable def r8_32 : Array Oper := regAt [1, 1, 1, 1, 1, 1, 1, 0] body8
theorem cd_c8_32 : c8_32 = .region 11 r8_32 false := by kernel_rfl
noncomputable def c8_34 : Code := match c8_33 with
  | .seq x _ => x
  | _ => .skip
noncomputable def c8_35 : Code := match c8_33 with
  | .seq _ x => x
  | _ => .skip
theorem cd_c8_33 : c8_33 = .seq c8_34 c8_35 := by kernel_rfl
noncomputable def c8_36 : Code := match c8_34 with
  | .seq x _ => x
  | _ => .skip
noncomputable def c8_37 : Code := match c8_34 with
  | .seq _ x => x
  | _ => .skip
theorem cd_c8_34 : c8_34 = .seq c8_36 c8_37 := by kernel_rfl
noncomputable def r8_36 : Array Oper := regAt [1, 1, 1, 1, 1, 1, 1, 1, 0, 0] body8
theorem cd_c8_36 : c8_36 = .region 12 r8_36 false := by kernel_rfl
noncomputable def c8_38 : Code := match c8_37 with
  | .cond _ x _ => x
  | _ => .skip
theorem cd_c8_37 : c8_37 = .cond (.tmp 70) c8_38 .skip := by kernel_rfl
noncomputable def c8_40 : Code := match c8_38 with
  | .seq x _ => x
  | _ => .skip
theorem cd_c8_38 : c8_38 = .seq c8_40 .ret := by kernel_rfl
noncomputable def r8_40 : Array Oper := regAt [1, 1, 1, 1, 1, 1, 1, 1, 0, 1, 1, 0] body8
theorem cd_c8_40 : c8_40 = .region 13 r8_40 false := by kernel_rfl
noncomputable def c8_41 : Code := match c8_35 with
  | .seq x _ => x
  | _ => .skip
noncomputable def c8_42 : Code := match c8_35 with
  | .seq _ x => x
  | _ => .skip
theorem cd_c8_35 : c8_35 = .seq c8_41 c8_42 := by kernel_rfl
noncomputable def r8_41 : Array Oper := regAt [1, 1, 1, 1, 1, 1, 1, 1, 1, 0] body8
theorem cd_c8_41 : c8_41 = .region 14 r8_41 false := by kernel_rfl
noncomputable def c8_43 : Code := match c8_42 with
  | .seq x _ => x
  | _ => .skip
noncomputable def c8_44 : Code := match c8_42 with
  | .seq _ x => x
  | _ => .skip
theorem cd_c8_42 : c8_42 = .seq c8_43 c8_44 := by kernel_rfl
noncomputable def r8_43 : Array Oper := regAt [1, 1, 1, 1, 1, 1, 1, 1, 1, 1, 0] body8
theorem cd_c8_43 : c8_43 = .region 15 r8_43 false := by kernel_rfl
noncomputable def c8_45 : Code := match c8_44 with
  | .seq x _ => x
  | _ => .skip
theorem cd_c8_44 : c8_44 = .seq c8_45 .ret := by kernel_rfl
noncomputable def r8_45 : Array Oper := regAt [1, 1, 1, 1, 1, 1, 1, 1, 1, 1, 1, 0] body8
theorem cd_c8_45 : c8_45 = .region 16 r8_45 false := by kernel_rfl
noncomputable def body9 : Code := match Try.f9.body with
  | some c => c
  | none => .skip
noncomputable def c9_1 : Code := match code9 with
  | .seq x _ => x
  | _ => .skip
noncomputable def c9_2 : Code := match code9 with
  | .seq _ x => x
  | _ => .skip
theorem cd_code9 : code9 = .seq c9_1 c9_2 := by kernel_rfl
noncomputable def r9_1 : Array Oper := regAt [0] body9
theorem cd_c9_1 : c9_1 = .region 0 r9_1 false := by kernel_rfl
noncomputable def c9_3 : Code := match c9_2 with
  | .seq x _ => x
  | _ => .skip
noncomputable def c9_4 : Code := match c9_2 with
  | .seq _ x => x
  | _ => .skip
theorem cd_c9_2 : c9_2 = .seq c9_3 c9_4 := by kernel_rfl
noncomputable def r9_3 : Array Oper := regAt [1, 0] body9
theorem cd_c9_3 : c9_3 = .region 1 r9_3 false := by kernel_rfl
noncomputable def c9_5 : Code := match c9_4 with
  | .seq x _ => x
  | _ => .skip
theorem cd_c9_4 : c9_4 = .seq c9_5 .ret := by kernel_rfl
noncomputable def r9_5 : Array Oper := regAt [1, 1, 0] body9
theorem cd_c9_5 : c9_5 = .region 2 r9_5 false := by kernel_rfl
noncomputable def body10 : Code := match Try.f10.body with
  | some c => c
  | none => .skip
noncomputable def c10_1 : Code := match code10 with
  | .seq x _ => x
  | _ => .skip
noncomputable def c10_2 : Code := match code10 with
  | .seq _ x => x
  | _ => .skip
theorem cd_code10 : code10 = .seq c10_1 c10_2 := by kernel_rfl
noncomputable def r10_1 : Array Oper := regAt [0] body10
theorem cd_c10_1 : c10_1 = .region 0 r10_1 false := by kernel_rfl
noncomputable def c10_3 : Code := match c10_2 with
  | .seq x _ => x
  | _ => .skip
noncomputable def c10_4 : Code := match c10_2 with
  | .seq _ x => x
  | _ => .skip
theorem cd_c10_2 : c10_2 = .seq c10_3 c10_4 := by kernel_rfl
noncomputable def r10_3 : Array Oper := regAt [1, 0] body10
theorem cd_c10_3 : c10_3 = .region 1 r10_3 false := by kernel_rfl
noncomputable def c10_5 : Code := match c10_4 with
  | .seq x _ => x
  | _ => .skip
noncomputable def c10_6 : Code := match c10_4 with
  | .seq _ x => x
  | _ => .skip
theorem cd_c10_4 : c10_4 = .seq c10_5 c10_6 := by kernel_rfl
noncomputable def r10_5 : Array Oper := regAt [1, 1, 0] body10
theorem cd_c10_5 : c10_5 = .region 2 r10_5 false := by kernel_rfl
noncomputable def c10_7 : Code := match c10_6 with
  | .seq x _ => x
  | _ => .skip
theorem cd_c10_6 : c10_6 = .seq c10_7 .ret := by kernel_rfl
noncomputable def r10_7 : Array Oper := regAt [1, 1, 1, 0] body10
theorem cd_c10_7 : c10_7 = .region 3 r10_7 false := by kernel_rfl
noncomputable def body11 : Code := match Try.f11.body with
  | some c => c
  | none => .skip
noncomputable def c11_1 : Code := match code11 with
  | .seq x _ => x
  | _ => .skip
noncomputable def c11_2 : Code := match code11 with
  | .seq _ x => x
  | _ => .skip
theorem cd_code11 : code11 = .seq c11_1 c11_2 := by kernel_rfl
noncomputable def r11_1 : Array Oper := regAt [0] body11
theorem cd_c11_1 : c11_1 = .region 0 r11_1 false := by kernel_rfl
noncomputable def c11_3 : Code := match c11_2 with
  | .seq x _ => x
  | _ => .skip
noncomputable def c11_4 : Code := match c11_2 with
  | .seq _ x => x
  | _ => .skip
theorem cd_c11_2 : c11_2 = .seq c11_3 c11_4 := by kernel_rfl
noncomputable def r11_3 : Array Oper := regAt [1, 0] body11
theorem cd_c11_3 : c11_3 = .region 1 r11_3 false := by kernel_rfl
noncomputable def c11_5 : Code := match c11_4 with
  | .seq x _ => x
  | _ => .skip
noncomputable def c11_6 : Code := match c11_4 with
  | .seq _ x => x
  | _ => .skip
theorem cd_c11_4 : c11_4 = .seq c11_5 c11_6 := by kernel_rfl
noncomputable def r11_5 : Array Oper := regAt [1, 1, 0] body11
theorem cd_c11_5 : c11_5 = .region 2 r11_5 false := by kernel_rfl
noncomputable def c11_7 : Code := match c11_6 with
  | .seq x _ => x
  | _ => .skip
noncomputable def c11_8 : Code := match c11_6 with
  | .seq _ x => x
  | _ => .skip
theorem cd_c11_6 : c11_6 = .seq c11_7 c11_8 := by kernel_rfl
noncomputable def c11_9 : Code := match c11_7 with
  | .seq x _ => x
  | _ => .skip
noncomputable def c11_10 : Code := match c11_7 with
  | .seq _ x => x
  | _ => .skip
theorem cd_c11_7 : c11_7 = .seq c11_9 c11_10 := by kernel_rfl
noncomputable def r11_9 : Array Oper := regAt [1, 1, 1, 0, 0] body11
theorem cd_c11_9 : c11_9 = .region 3 r11_9 false := by kernel_rfl
noncomputable def c11_11 : Code := match c11_10 with
  | .block _ x => x
  | _ => .skip
theorem cd_c11_10 : c11_10 = .block 0 c11_11 := by kernel_rfl
noncomputable def c11_12 : Code := match c11_11 with
  | .rangeFunc _ _ x _ => x
  | _ => .skip
noncomputable def c11_13 : Code := match c11_11 with
  | .rangeFunc _ _ _ x => x
  | _ => .skip
theorem cd_c11_11 : c11_11 = .rangeFunc (.tmp 9) #[10, 11] c11_12 c11_13 := by kernel_rfl
noncomputable def c11_14 : Code := match c11_12 with
  | .seq x _ => x
  | _ => .skip
noncomputable def c11_15 : Code := match c11_12 with
  | .seq _ x => x
  | _ => .skip
theorem cd_c11_12 : c11_12 = .seq c11_14 c11_15 := by kernel_rfl
noncomputable def r11_14 : Array Oper := regAt [1, 1, 1, 0, 1, 1, 2, 0] body11
theorem cd_c11_14 : c11_14 = .region 4 r11_14 false := by kernel_rfl
noncomputable def r11_15 : Array Oper := regAt [1, 1, 1, 0, 1, 1, 2, 1] body11
theorem cd_c11_15 : c11_15 = .region 5 r11_15 false := by kernel_rfl
noncomputable def c11_16 : Code := match c11_13 with
  | .block _ x => x
  | _ => .skip
theorem cd_c11_13 : c11_13 = .block 1 c11_16 := by kernel_rfl
noncomputable def c11_17 : Code := match c11_16 with
  | .seq x _ => x
  | _ => .skip
noncomputable def c11_18 : Code := match c11_16 with
  | .seq _ x => x
  | _ => .skip
theorem cd_c11_16 : c11_16 = .seq c11_17 c11_18 := by kernel_rfl
noncomputable def c11_19 : Code := match c11_17 with
  | .seq x _ => x
  | _ => .skip
noncomputable def c11_20 : Code := match c11_17 with
  | .seq _ x => x
  | _ => .skip
theorem cd_c11_17 : c11_17 = .seq c11_19 c11_20 := by kernel_rfl
noncomputable def r11_19 : Array Oper := regAt [1, 1, 1, 0, 1, 1, 3, 1, 0, 0] body11
theorem cd_c11_19 : c11_19 = .region 6 r11_19 false := by kernel_rfl
theorem cd_c11_20 : c11_20 = .cond (.tmp 14) (.exit 0) .skip := by kernel_rfl
noncomputable def r11_18 : Array Oper := regAt [1, 1, 1, 0, 1, 1, 3, 1, 1] body11
theorem cd_c11_18 : c11_18 = .region 7 r11_18 true := by kernel_rfl
noncomputable def c11_22 : Code := match c11_8 with
  | .seq x _ => x
  | _ => .skip
theorem cd_c11_8 : c11_8 = .seq c11_22 .ret := by kernel_rfl
noncomputable def r11_22 : Array Oper := regAt [1, 1, 1, 1, 0] body11
theorem cd_c11_22 : c11_22 = .region 8 r11_22 true := by kernel_rfl
noncomputable def body12 : Code := match Try.f12.body with
  | some c => c
  | none => .skip
noncomputable def c12_1 : Code := match code12 with
  | .seq x _ => x
  | _ => .skip
noncomputable def c12_2 : Code := match code12 with
  | .seq _ x => x
  | _ => .skip
theorem cd_code12 : code12 = .seq c12_1 c12_2 := by kernel_rfl
noncomputable def r12_1 : Array Oper := regAt [0] body12
theorem cd_c12_1 : c12_1 = .region 0 r12_1 false := by kernel_rfl
noncomputable def c12_3 : Code := match c12_2 with
  | .seq x _ => x
  | _ => .skip
noncomputable def c12_4 : Code := match c12_2 with
  | .seq _ x => x
  | _ => .skip
theorem cd_c12_2 : c12_2 = .seq c12_3 c12_4 := by kernel_rfl
noncomputable def r12_3 : Array Oper := regAt [1, 0] body12
theorem cd_c12_3 : c12_3 = .region 1 r12_3 false := by kernel_rfl
noncomputable def c12_5 : Code := match c12_4 with
  | .seq x _ => x
  | _ => .skip
noncomputable def c12_6 : Code := match c12_4 with
  | .seq _ x => x
  | _ => .skip
theorem cd_c12_4 : c12_4 = .seq c12_5 c12_6 := by kernel_rfl
noncomputable def r12_5 : Array Oper := regAt [1, 1, 0] body12
theorem cd_c12_5 : c12_5 = .region 2 r12_5 false := by kernel_rfl
noncomputable def c12_7 : Code := match c12_6 with
  | .block _ x => x
  | _ => .skip
theorem cd_c12_6 : c12_6 = .block 0 c12_7 := by kernel_rfl
noncomputable def c12_8 : Code := match c12_7 with
  | .loop x => x
  | _ => .skip
theorem cd_c12_7 : c12_7 = .loop c12_8 := by kernel_rfl
noncomputable def c12_9 : Code := match c12_8 with
  | .block _ x => x
  | _ => .skip
theorem cd_c12_8 : c12_8 = .block 1 c12_9 := by kernel_rfl
noncomputable def c12_10 : Code := match c12_9 with
  | .seq x _ => x
  | _ => .skip
noncomputable def c12_11 : Code := match c12_9 with
  | .seq _ x => x
  | _ => .skip
theorem cd_c12_9 : c12_9 = .seq c12_10 c12_11 := by kernel_rfl
noncomputable def r12_10 : Array Oper := regAt [1, 1, 1, 1, 0, 1, 0] body12
theorem cd_c12_10 : c12_10 = .region 3 r12_10 false := by kernel_rfl
noncomputable def c12_12 : Code := match c12_11 with
  | .seq x _ => x
  | _ => .skip
noncomputable def c12_13 : Code := match c12_11 with
  | .seq _ x => x
  | _ => .skip
theorem cd_c12_11 : c12_11 = .seq c12_12 c12_13 := by kernel_rfl
noncomputable def c12_14 : Code := match c12_12 with
  | .seq x _ => x
  | _ => .skip
noncomputable def c12_15 : Code := match c12_12 with
  | .seq _ x => x
  | _ => .skip
theorem cd_c12_12 : c12_12 = .seq c12_14 c12_15 := by kernel_rfl
noncomputable def r12_14 : Array Oper := regAt [1, 1, 1, 1, 0, 1, 1, 0, 0] body12
theorem cd_c12_14 : c12_14 = .region 4 r12_14 false := by kernel_rfl
noncomputable def c12_16 : Code := match c12_15 with
  | .cond _ x _ => x
  | _ => .skip
theorem cd_c12_15 : c12_15 = .cond (.tmp 13) c12_16 .skip := by kernel_rfl
noncomputable def c12_18 : Code := match c12_16 with
  | .seq x _ => x
  | _ => .skip
theorem cd_c12_16 : c12_16 = .seq c12_18 .ret := by kernel_rfl
noncomputable def r12_18 : Array Oper := regAt [1, 1, 1, 1, 0, 1, 1, 0, 1, 1, 0] body12
theorem cd_c12_18 : c12_18 = .region 5 r12_18 false := by kernel_rfl
noncomputable def c12_19 : Code := match c12_13 with
  | .seq x _ => x
  | _ => .skip
noncomputable def c12_20 : Code := match c12_13 with
  | .seq _ x => x
  | _ => .skip
theorem cd_c12_13 : c12_13 = .seq c12_19 c12_20 := by kernel_rfl
noncomputable def r12_19 : Array Oper := regAt [1, 1, 1, 1, 0, 1, 1, 1, 0] body12
theorem cd_c12_19 : c12_19 = .region 6 r12_19 false := by kernel_rfl
noncomputable def r12_20 : Array Oper := regAt [1, 1, 1, 1, 0, 1, 1, 1, 1] body12
theorem cd_c12_20 : c12_20 = .region 7 r12_20 false := by kernel_rfl
noncomputable def body13 : Code := match Try.f13.body with
  | some c => c
  | none => .skip
noncomputable def c13_1 : Code := match code13 with
  | .seq x _ => x
  | _ => .skip
noncomputable def c13_2 : Code := match code13 with
  | .seq _ x => x
  | _ => .skip
theorem cd_code13 : code13 = .seq c13_1 c13_2 := by kernel_rfl
noncomputable def r13_1 : Array Oper := regAt [0] body13
theorem cd_c13_1 : c13_1 = .region 0 r13_1 false := by kernel_rfl
noncomputable def c13_3 : Code := match c13_2 with
  | .seq x _ => x
  | _ => .skip
noncomputable def c13_4 : Code := match c13_2 with
  | .seq _ x => x
  | _ => .skip
theorem cd_c13_2 : c13_2 = .seq c13_3 c13_4 := by kernel_rfl
noncomputable def c13_5 : Code := match c13_3 with
  | .seq x _ => x
  | _ => .skip
noncomputable def c13_6 : Code := match c13_3 with
  | .seq _ x => x
  | _ => .skip
theorem cd_c13_3 : c13_3 = .seq c13_5 c13_6 := by kernel_rfl
noncomputable def r13_5 : Array Oper := regAt [1, 0, 0] body13
theorem cd_c13_5 : c13_5 = .region 1 r13_5 false := by kernel_rfl
noncomputable def c13_7 : Code := match c13_6 with
  | .cond _ x _ => x
  | _ => .skip
theorem cd_c13_6 : c13_6 = .cond (.tmp 10) c13_7 .skip := by kernel_rfl
noncomputable def c13_9 : Code := match c13_7 with
  | .seq x _ => x
  | _ => .skip
theorem cd_c13_7 : c13_7 = .seq c13_9 .ret := by kernel_rfl
noncomputable def r13_9 : Array Oper := regAt [1, 0, 1, 1, 0] body13
theorem cd_c13_9 : c13_9 = .region 2 r13_9 false := by kernel_rfl
noncomputable def c13_10 : Code := match c13_4 with
  | .seq x _ => x
  | _ => .skip
noncomputable def c13_11 : Code := match c13_4 with
  | .seq _ x => x
  | _ => .skip
theorem cd_c13_4 : c13_4 = .seq c13_10 c13_11 := by kernel_rfl
noncomputable def c13_12 : Code := match c13_10 with
  | .seq x _ => x
  | _ => .skip
noncomputable def c13_13 : Code := match c13_10 with
  | .seq _ x => x
  | _ => .skip
theorem cd_c13_10 : c13_10 = .seq c13_12 c13_13 := by kernel_rfl
noncomputable def r13_12 : Array Oper := regAt [1, 1, 0, 0] body13
theorem cd_c13_12 : c13_12 = .region 3 r13_12 false := by kernel_rfl
noncomputable def c13_14 : Code := match c13_13 with
  | .block _ x => x
  | _ => .skip
theorem cd_c13_13 : c13_13 = .block 0 c13_14 := by kernel_rfl
noncomputable def c13_15 : Code := match c13_14 with
  | .loop x => x
  | _ => .skip
theorem cd_c13_14 : c13_14 = .loop c13_15 := by kernel_rfl
noncomputable def c13_16 : Code := match c13_15 with
  | .seq x _ => x
  | _ => .skip
noncomputable def c13_17 : Code := match c13_15 with
  | .seq _ x => x
  | _ => .skip
theorem cd_c13_15 : c13_15 = .seq c13_16 c13_17 := by kernel_rfl
noncomputable def c13_18 : Code := match c13_16 with
  | .seq x _ => x
  | _ => .skip
noncomputable def c13_19 : Code := match c13_16 with
  | .seq _ x => x
  | _ => .skip
theorem cd_c13_16 : c13_16 = .seq c13_18 c13_19 := by kernel_rfl
noncomputable def r13_18 : Array Oper := regAt [1, 1, 0, 1, 1, 0, 0, 0] body13
theorem cd_c13_18 : c13_18 = .region 4 r13_18 false := by kernel_rfl
theorem cd_c13_19 : c13_19 = .cond (.tmp 14) .skip (.exit 0) := by kernel_rfl
noncomputable def c13_21 : Code := match c13_17 with
  | .seq x _ => x
  | _ => .skip
noncomputable def c13_22 : Code := match c13_17 with
  | .seq _ x => x
  | _ => .skip
theorem cd_c13_17 : c13_17 = .seq c13_21 c13_22 := by kernel_rfl
noncomputable def c13_23 : Code := match c13_21 with
  | .block _ x => x
  | _ => .skip
theorem cd_c13_21 : c13_21 = .block 1 c13_23 := by kernel_rfl
noncomputable def c13_24 : Code := match c13_23 with
  | .seq x _ => x
  | _ => .skip
noncomputable def c13_25 : Code := match c13_23 with
  | .seq _ x => x
  | _ => .skip
theorem cd_c13_23 : c13_23 = .seq c13_24 c13_25 := by kernel_rfl
noncomputable def r13_24 : Array Oper := regAt [1, 1, 0, 1, 1, 0, 1, 0, 1, 0] body13
theorem cd_c13_24 : c13_24 = .region 6 r13_24 true := by kernel_rfl
noncomputable def c13_26 : Code := match c13_25 with
  | .cond _ x _ => x
  | _ => .skip
theorem cd_c13_25 : c13_25 = .cond (.tmp 26) c13_26 .skip := by kernel_rfl
noncomputable def c13_28 : Code := match c13_26 with
  | .seq x _ => x
  | _ => .skip
theorem cd_c13_26 : c13_26 = .seq c13_28 .ret := by kernel_rfl
noncomputable def r13_28 : Array Oper := regAt [1, 1, 0, 1, 1, 0, 1, 0, 1, 1, 1, 0] body13
theorem cd_c13_28 : c13_28 = .region 7 r13_28 false := by kernel_rfl
noncomputable def r13_22 : Array Oper := regAt [1, 1, 0, 1, 1, 0, 1, 1] body13
theorem cd_c13_22 : c13_22 = .region 5 r13_22 false := by kernel_rfl
noncomputable def c13_29 : Code := match c13_11 with
  | .seq x _ => x
  | _ => .skip
theorem cd_c13_11 : c13_11 = .seq c13_29 .ret := by kernel_rfl
noncomputable def r13_29 : Array Oper := regAt [1, 1, 1, 0] body13
theorem cd_c13_29 : c13_29 = .region 8 r13_29 false := by kernel_rfl
noncomputable def body14 : Code := match Try.f14.body with
  | some c => c
  | none => .skip
noncomputable def c14_1 : Code := match code14 with
  | .seq x _ => x
  | _ => .skip
noncomputable def c14_2 : Code := match code14 with
  | .seq _ x => x
  | _ => .skip
theorem cd_code14 : code14 = .seq c14_1 c14_2 := by kernel_rfl
noncomputable def r14_1 : Array Oper := regAt [0] body14
theorem cd_c14_1 : c14_1 = .region 0 r14_1 false := by kernel_rfl
noncomputable def c14_3 : Code := match c14_2 with
  | .seq x _ => x
  | _ => .skip
noncomputable def c14_4 : Code := match c14_2 with
  | .seq _ x => x
  | _ => .skip
theorem cd_c14_2 : c14_2 = .seq c14_3 c14_4 := by kernel_rfl
noncomputable def r14_3 : Array Oper := regAt [1, 0] body14
theorem cd_c14_3 : c14_3 = .region 1 r14_3 false := by kernel_rfl
noncomputable def c14_5 : Code := match c14_4 with
  | .block _ x => x
  | _ => .skip
theorem cd_c14_4 : c14_4 = .block 0 c14_5 := by kernel_rfl
noncomputable def c14_6 : Code := match c14_5 with
  | .loop x => x
  | _ => .skip
theorem cd_c14_5 : c14_5 = .loop c14_6 := by kernel_rfl
noncomputable def c14_7 : Code := match c14_6 with
  | .seq x _ => x
  | _ => .skip
noncomputable def c14_8 : Code := match c14_6 with
  | .seq _ x => x
  | _ => .skip
theorem cd_c14_6 : c14_6 = .seq c14_7 c14_8 := by kernel_rfl
noncomputable def c14_9 : Code := match c14_7 with
  | .seq x _ => x
  | _ => .skip
noncomputable def c14_10 : Code := match c14_7 with
  | .seq _ x => x
  | _ => .skip
theorem cd_c14_7 : c14_7 = .seq c14_9 c14_10 := by kernel_rfl
noncomputable def r14_9 : Array Oper := regAt [1, 1, 1, 0, 0, 0] body14
theorem cd_c14_9 : c14_9 = .region 2 r14_9 false := by kernel_rfl
theorem cd_c14_10 : c14_10 = .cond (.tmp 10) .skip (.exit 0) := by kernel_rfl
noncomputable def c14_12 : Code := match c14_8 with
  | .seq x _ => x
  | _ => .skip
noncomputable def c14_13 : Code := match c14_8 with
  | .seq _ x => x
  | _ => .skip
theorem cd_c14_8 : c14_8 = .seq c14_12 c14_13 := by kernel_rfl
noncomputable def c14_14 : Code := match c14_12 with
  | .block _ x => x
  | _ => .skip
theorem cd_c14_12 : c14_12 = .block 1 c14_14 := by kernel_rfl
noncomputable def r14_14 : Array Oper := regAt [1, 1, 1, 0, 1, 0, 1] body14
theorem cd_c14_14 : c14_14 = .region 4 r14_14 false := by kernel_rfl
noncomputable def r14_13 : Array Oper := regAt [1, 1, 1, 0, 1, 1] body14
theorem cd_c14_13 : c14_13 = .region 3 r14_13 false := by kernel_rfl
noncomputable def body15 : Code := match Try.f15.body with
  | some c => c
  | none => .skip
noncomputable def c15_1 : Code := match code15 with
  | .seq x _ => x
  | _ => .skip
noncomputable def c15_2 : Code := match code15 with
  | .seq _ x => x
  | _ => .skip
theorem cd_code15 : code15 = .seq c15_1 c15_2 := by kernel_rfl
noncomputable def r15_1 : Array Oper := regAt [0] body15
theorem cd_c15_1 : c15_1 = .region 0 r15_1 false := by kernel_rfl
noncomputable def c15_3 : Code := match c15_2 with
  | .seq x _ => x
  | _ => .skip
noncomputable def c15_4 : Code := match c15_2 with
  | .seq _ x => x
  | _ => .skip
theorem cd_c15_2 : c15_2 = .seq c15_3 c15_4 := by kernel_rfl
noncomputable def r15_3 : Array Oper := regAt [1, 0] body15
theorem cd_c15_3 : c15_3 = .region 1 r15_3 false := by kernel_rfl
noncomputable def c15_5 : Code := match c15_4 with
  | .seq x _ => x
  | _ => .skip
noncomputable def c15_6 : Code := match c15_4 with
  | .seq _ x => x
  | _ => .skip
theorem cd_c15_4 : c15_4 = .seq c15_5 c15_6 := by kernel_rfl
noncomputable def c15_7 : Code := match c15_5 with
  | .seq x _ => x
  | _ => .skip
noncomputable def c15_8 : Code := match c15_5 with
  | .seq _ x => x
  | _ => .skip
theorem cd_c15_5 : c15_5 = .seq c15_7 c15_8 := by kernel_rfl
noncomputable def r15_7 : Array Oper := regAt [1, 1, 0, 0] body15
theorem cd_c15_7 : c15_7 = .region 2 r15_7 false := by kernel_rfl
noncomputable def c15_9 : Code := match c15_8 with
  | .cond _ x _ => x
  | _ => .skip
theorem cd_c15_8 : c15_8 = .cond (.tmp 22) c15_9 .skip := by kernel_rfl
noncomputable def c15_11 : Code := match c15_9 with
  | .seq x _ => x
  | _ => .skip
theorem cd_c15_9 : c15_9 = .seq c15_11 .ret := by kernel_rfl
noncomputable def r15_11 : Array Oper := regAt [1, 1, 0, 1, 1, 0] body15
theorem cd_c15_11 : c15_11 = .region 3 r15_11 false := by kernel_rfl
noncomputable def c15_12 : Code := match c15_6 with
  | .seq x _ => x
  | _ => .skip
noncomputable def c15_13 : Code := match c15_6 with
  | .seq _ x => x
  | _ => .skip
theorem cd_c15_6 : c15_6 = .seq c15_12 c15_13 := by kernel_rfl
noncomputable def r15_12 : Array Oper := regAt [1, 1, 1, 0] body15
theorem cd_c15_12 : c15_12 = .region 4 r15_12 false := by kernel_rfl
noncomputable def c15_14 : Code := match c15_13 with
  | .seq x _ => x
  | _ => .skip
theorem cd_c15_13 : c15_13 = .seq c15_14 .ret := by kernel_rfl
noncomputable def r15_14 : Array Oper := regAt [1, 1, 1, 1, 0] body15
theorem cd_c15_14 : c15_14 = .region 5 r15_14 false := by kernel_rfl
noncomputable def body16 : Code := match Try.f16.body with
  | some c => c
  | none => .skip
noncomputable def c16_1 : Code := match code16 with
  | .seq x _ => x
  | _ => .skip
noncomputable def c16_2 : Code := match code16 with
  | .seq _ x => x
  | _ => .skip
theorem cd_code16 : code16 = .seq c16_1 c16_2 := by kernel_rfl
noncomputable def r16_1 : Array Oper := regAt [0] body16
theorem cd_c16_1 : c16_1 = .region 0 r16_1 false := by kernel_rfl
noncomputable def c16_3 : Code := match c16_2 with
  | .seq x _ => x
  | _ => .skip
noncomputable def c16_4 : Code := match c16_2 with
  | .seq _ x => x
  | _ => .skip
theorem cd_c16_2 : c16_2 = .seq c16_3 c16_4 := by kernel_rfl
noncomputable def c16_5 : Code := match c16_3 with
  | .block _ x => x
  | _ => .skip
theorem cd_c16_3 : c16_3 = .block 0 c16_5 := by kernel_rfl
noncomputable def c16_6 : Code := match c16_5 with
  | .seq x _ => x
  | _ => .skip
noncomputable def c16_7 : Code := match c16_5 with
  | .seq _ x => x
  | _ => .skip
theorem cd_c16_5 : c16_5 = .seq c16_6 c16_7 := by kernel_rfl
noncomputable def r16_6 : Array Oper := regAt [1, 0, 1, 0] body16
theorem cd_c16_6 : c16_6 = .region 1 r16_6 false := by kernel_rfl
noncomputable def c16_8 : Code := match c16_7 with
  | .cond _ x _ => x
  | _ => .skip
noncomputable def c16_9 : Code := match c16_7 with
  | .cond _ _ x => x
  | _ => .skip
theorem cd_c16_7 : c16_7 = .cond (.tmp 5) c16_8 c16_9 := by kernel_rfl
noncomputable def c16_11 : Code := match c16_8 with
  | .seq x _ => x
  | _ => .skip
theorem cd_c16_8 : c16_8 = .seq c16_11 .ret := by kernel_rfl
noncomputable def r16_11 : Array Oper := regAt [1, 0, 1, 1, 1, 0] body16
theorem cd_c16_11 : c16_11 = .region 2 r16_11 false := by kernel_rfl
noncomputable def c16_12 : Code := match c16_9 with
  | .seq x _ => x
  | _ => .skip
noncomputable def c16_13 : Code := match c16_9 with
  | .seq _ x => x
  | _ => .skip
theorem cd_c16_9 : c16_9 = .seq c16_12 c16_13 := by kernel_rfl
noncomputable def r16_12 : Array Oper := regAt [1, 0, 1, 1, 2, 0] body16
theorem cd_c16_12 : c16_12 = .region 3 r16_12 false := by kernel_rfl
noncomputable def c16_14 : Code := match c16_13 with
  | .cond _ x _ => x
  | _ => .skip
theorem cd_c16_13 : c16_13 = .cond (.tmp 9) c16_14 .skip := by kernel_rfl
noncomputable def c16_16 : Code := match c16_14 with
  | .seq x _ => x
  | _ => .skip
theorem cd_c16_14 : c16_14 = .seq c16_16 .ret := by kernel_rfl
noncomputable def r16_16 : Array Oper := regAt [1, 0, 1, 1, 2, 1, 1, 0] body16
theorem cd_c16_16 : c16_16 = .region 4 r16_16 false := by kernel_rfl
noncomputable def c16_17 : Code := match c16_4 with
  | .seq x _ => x
  | _ => .skip
noncomputable def c16_18 : Code := match c16_4 with
  | .seq _ x => x
  | _ => .skip
theorem cd_c16_4 : c16_4 = .seq c16_17 c16_18 := by kernel_rfl
noncomputable def r16_17 : Array Oper := regAt [1, 1, 0] body16
theorem cd_c16_17 : c16_17 = .region 5 r16_17 false := by kernel_rfl
noncomputable def c16_19 : Code := match c16_18 with
  | .seq x _ => x
  | _ => .skip
noncomputable def c16_20 : Code := match c16_18 with
  | .seq _ x => x
  | _ => .skip
theorem cd_c16_18 : c16_18 = .seq c16_19 c16_20 := by kernel_rfl
noncomputable def r16_19 : Array Oper := regAt [1, 1, 1, 0] body16
theorem cd_c16_19 : c16_19 = .region 6 r16_19 false := by kernel_rfl
noncomputable def c16_21 : Code := match c16_20 with
  | .seq x _ => x
  | _ => .skip
noncomputable def c16_22 : Code := match c16_20 with
  | .seq _ x => x
  | _ => .skip
theorem cd_c16_20 : c16_20 = .seq c16_21 c16_22 := by kernel_rfl
noncomputable def r16_21 : Array Oper := regAt [1, 1, 1, 1, 0] body16
theorem cd_c16_21 : c16_21 = .region 7 r16_21 true := by kernel_rfl
noncomputable def c16_23 : Code := match c16_22 with
  | .seq x _ => x
  | _ => .skip
theorem cd_c16_22 : c16_22 = .seq c16_23 .ret := by kernel_rfl
noncomputable def r16_23 : Array Oper := regAt [1, 1, 1, 1, 1, 0] body16
theorem cd_c16_23 : c16_23 = .region 8 r16_23 false := by kernel_rfl
noncomputable def body17 : Code := match Try.f17.body with
  | some c => c
  | none => .skip
noncomputable def c17_1 : Code := match code17 with
  | .seq x _ => x
  | _ => .skip
noncomputable def c17_2 : Code := match code17 with
  | .seq _ x => x
  | _ => .skip
theorem cd_code17 : code17 = .seq c17_1 c17_2 := by kernel_rfl
noncomputable def r17_1 : Array Oper := regAt [0] body17
theorem cd_c17_1 : c17_1 = .region 0 r17_1 false := by kernel_rfl
noncomputable def c17_3 : Code := match c17_2 with
  | .seq x _ => x
  | _ => .skip
theorem cd_c17_2 : c17_2 = .seq c17_3 .ret := by kernel_rfl
noncomputable def r17_3 : Array Oper := regAt [1, 0] body17
theorem cd_c17_3 : c17_3 = .region 1 r17_3 false := by kernel_rfl
noncomputable def body18 : Code := match Try.f18.body with
  | some c => c
  | none => .skip
noncomputable def c18_1 : Code := match code18 with
  | .seq x _ => x
  | _ => .skip
noncomputable def c18_2 : Code := match code18 with
  | .seq _ x => x
  | _ => .skip
theorem cd_code18 : code18 = .seq c18_1 c18_2 := by kernel_rfl
noncomputable def r18_1 : Array Oper := regAt [0] body18
theorem cd_c18_1 : c18_1 = .region 0 r18_1 false := by kernel_rfl
noncomputable def c18_3 : Code := match c18_2 with
  | .seq x _ => x
  | _ => .skip
noncomputable def c18_4 : Code := match c18_2 with
  | .seq _ x => x
  | _ => .skip
theorem cd_c18_2 : c18_2 = .seq c18_3 c18_4 := by kernel_rfl
noncomputable def c18_5 : Code := match c18_3 with
  | .seq x _ => x
  | _ => .skip
noncomputable def c18_6 : Code := match c18_3 with
  | .seq _ x => x
  | _ => .skip
theorem cd_c18_3 : c18_3 = .seq c18_5 c18_6 := by kernel_rfl
noncomputable def r18_5 : Array Oper := regAt [1, 0, 0] body18
theorem cd_c18_5 : c18_5 = .region 1 r18_5 false := by kernel_rfl
noncomputable def c18_7 : Code := match c18_6 with
  | .cond _ x _ => x
  | _ => .skip
theorem cd_c18_6 : c18_6 = .cond (.tmp 5) c18_7 .skip := by kernel_rfl
noncomputable def c18_9 : Code := match c18_7 with
  | .seq x _ => x
  | _ => .skip
theorem cd_c18_7 : c18_7 = .seq c18_9 .ret := by kernel_rfl
noncomputable def r18_9 : Array Oper := regAt [1, 0, 1, 1, 0] body18
theorem cd_c18_9 : c18_9 = .region 2 r18_9 false := by kernel_rfl
noncomputable def c18_10 : Code := match c18_4 with
  | .seq x _ => x
  | _ => .skip
theorem cd_c18_4 : c18_4 = .seq c18_10 .ret := by kernel_rfl
noncomputable def r18_10 : Array Oper := regAt [1, 1, 0] body18
theorem cd_c18_10 : c18_10 = .region 3 r18_10 false := by kernel_rfl
noncomputable def body19 : Code := match Try.f19.body with
  | some c => c
  | none => .skip
noncomputable def c19_1 : Code := match code19 with
  | .seq x _ => x
  | _ => .skip
noncomputable def c19_2 : Code := match code19 with
  | .seq _ x => x
  | _ => .skip
theorem cd_code19 : code19 = .seq c19_1 c19_2 := by kernel_rfl
noncomputable def r19_1 : Array Oper := regAt [0] body19
theorem cd_c19_1 : c19_1 = .region 0 r19_1 false := by kernel_rfl
noncomputable def c19_3 : Code := match c19_2 with
  | .seq x _ => x
  | _ => .skip
noncomputable def c19_4 : Code := match c19_2 with
  | .seq _ x => x
  | _ => .skip
theorem cd_c19_2 : c19_2 = .seq c19_3 c19_4 := by kernel_rfl
noncomputable def r19_3 : Array Oper := regAt [1, 0] body19
theorem cd_c19_3 : c19_3 = .region 1 r19_3 false := by kernel_rfl
noncomputable def c19_5 : Code := match c19_4 with
  | .seq x _ => x
  | _ => .skip
noncomputable def c19_6 : Code := match c19_4 with
  | .seq _ x => x
  | _ => .skip
theorem cd_c19_4 : c19_4 = .seq c19_5 c19_6 := by kernel_rfl
noncomputable def r19_5 : Array Oper := regAt [1, 1, 0] body19
theorem cd_c19_5 : c19_5 = .region 2 r19_5 false := by kernel_rfl
noncomputable def c19_7 : Code := match c19_6 with
  | .seq x _ => x
  | _ => .skip
noncomputable def c19_8 : Code := match c19_6 with
  | .seq _ x => x
  | _ => .skip
theorem cd_c19_6 : c19_6 = .seq c19_7 c19_8 := by kernel_rfl
noncomputable def c19_9 : Code := match c19_7 with
  | .seq x _ => x
  | _ => .skip
noncomputable def c19_10 : Code := match c19_7 with
  | .seq _ x => x
  | _ => .skip
theorem cd_c19_7 : c19_7 = .seq c19_9 c19_10 := by kernel_rfl
noncomputable def r19_9 : Array Oper := regAt [1, 1, 1, 0, 0] body19
theorem cd_c19_9 : c19_9 = .region 3 r19_9 false := by kernel_rfl
noncomputable def c19_11 : Code := match c19_10 with
  | .block _ x => x
  | _ => .skip
theorem cd_c19_10 : c19_10 = .block 0 c19_11 := by kernel_rfl
noncomputable def c19_12 : Code := match c19_11 with
  | .loop x => x
  | _ => .skip
theorem cd_c19_11 : c19_11 = .loop c19_12 := by kernel_rfl
noncomputable def c19_13 : Code := match c19_12 with
  | .seq x _ => x
  | _ => .skip
noncomputable def c19_14 : Code := match c19_12 with
  | .seq _ x => x
  | _ => .skip
theorem cd_c19_12 : c19_12 = .seq c19_13 c19_14 := by kernel_rfl
noncomputable def c19_15 : Code := match c19_13 with
  | .seq x _ => x
  | _ => .skip
noncomputable def c19_16 : Code := match c19_13 with
  | .seq _ x => x
  | _ => .skip
theorem cd_c19_13 : c19_13 = .seq c19_15 c19_16 := by kernel_rfl
noncomputable def r19_15 : Array Oper := regAt [1, 1, 1, 0, 1, 1, 0, 0, 0] body19
theorem cd_c19_15 : c19_15 = .region 4 r19_15 false := by kernel_rfl
theorem cd_c19_16 : c19_16 = .cond (.tmp 19) .skip (.exit 0) := by kernel_rfl
noncomputable def c19_18 : Code := match c19_14 with
  | .seq x _ => x
  | _ => .skip
noncomputable def c19_19 : Code := match c19_14 with
  | .seq _ x => x
  | _ => .skip
theorem cd_c19_14 : c19_14 = .seq c19_18 c19_19 := by kernel_rfl
noncomputable def c19_20 : Code := match c19_18 with
  | .block _ x => x
  | _ => .skip
theorem cd_c19_18 : c19_18 = .block 1 c19_20 := by kernel_rfl
noncomputable def r19_20 : Array Oper := regAt [1, 1, 1, 0, 1, 1, 0, 1, 0, 1] body19
theorem cd_c19_20 : c19_20 = .region 6 r19_20 false := by kernel_rfl
noncomputable def r19_19 : Array Oper := regAt [1, 1, 1, 0, 1, 1, 0, 1, 1] body19
theorem cd_c19_19 : c19_19 = .region 5 r19_19 false := by kernel_rfl
noncomputable def c19_21 : Code := match c19_8 with
  | .seq x _ => x
  | _ => .skip
theorem cd_c19_8 : c19_8 = .seq c19_21 .ret := by kernel_rfl
noncomputable def r19_21 : Array Oper := regAt [1, 1, 1, 1, 0] body19
theorem cd_c19_21 : c19_21 = .region 7 r19_21 false := by kernel_rfl
noncomputable def body20 : Code := match Try.f20.body with
  | some c => c
  | none => .skip
noncomputable def c20_1 : Code := match code20 with
  | .seq x _ => x
  | _ => .skip
noncomputable def c20_2 : Code := match code20 with
  | .seq _ x => x
  | _ => .skip
theorem cd_code20 : code20 = .seq c20_1 c20_2 := by kernel_rfl
noncomputable def r20_1 : Array Oper := regAt [0] body20
theorem cd_c20_1 : c20_1 = .region 0 r20_1 false := by kernel_rfl
noncomputable def c20_3 : Code := match c20_2 with
  | .seq x _ => x
  | _ => .skip
noncomputable def c20_4 : Code := match c20_2 with
  | .seq _ x => x
  | _ => .skip
theorem cd_c20_2 : c20_2 = .seq c20_3 c20_4 := by kernel_rfl
noncomputable def c20_5 : Code := match c20_3 with
  | .seq x _ => x
  | _ => .skip
noncomputable def c20_6 : Code := match c20_3 with
  | .seq _ x => x
  | _ => .skip
theorem cd_c20_3 : c20_3 = .seq c20_5 c20_6 := by kernel_rfl
noncomputable def r20_5 : Array Oper := regAt [1, 0, 0] body20
theorem cd_c20_5 : c20_5 = .region 1 r20_5 false := by kernel_rfl
noncomputable def c20_7 : Code := match c20_6 with
  | .block _ x => x
  | _ => .skip
theorem cd_c20_6 : c20_6 = .block 0 c20_7 := by kernel_rfl
noncomputable def c20_8 : Code := match c20_7 with
  | .loop x => x
  | _ => .skip
theorem cd_c20_7 : c20_7 = .loop c20_8 := by kernel_rfl
noncomputable def c20_9 : Code := match c20_8 with
  | .seq x _ => x
  | _ => .skip
noncomputable def c20_10 : Code := match c20_8 with
  | .seq _ x => x
  | _ => .skip
theorem cd_c20_8 : c20_8 = .seq c20_9 c20_10 := by kernel_rfl
noncomputable def c20_11 : Code := match c20_9 with
  | .seq x _ => x
  | _ => .skip
noncomputable def c20_12 : Code := match c20_9 with
  | .seq _ x => x
  | _ => .skip
theorem cd_c20_9 : c20_9 = .seq c20_11 c20_12 := by kernel_rfl
noncomputable def r20_11 : Array Oper := regAt [1, 0, 1, 1, 0, 0, 0] body20
theorem cd_c20_11 : c20_11 = .region 2 r20_11 false := by kernel_rfl
theorem cd_c20_12 : c20_12 = .cond (.tmp 11) .skip (.exit 0) := by kernel_rfl
noncomputable def c20_14 : Code := match c20_10 with
  | .seq x _ => x
  | _ => .skip
noncomputable def c20_15 : Code := match c20_10 with
  | .seq _ x => x
  | _ => .skip
theorem cd_c20_10 : c20_10 = .seq c20_14 c20_15 := by kernel_rfl
noncomputable def c20_16 : Code := match c20_14 with
  | .block _ x => x
  | _ => .skip
theorem cd_c20_14 : c20_14 = .block 1 c20_16 := by kernel_rfl
noncomputable def c20_17 : Code := match c20_16 with
  | .seq x _ => x
  | _ => .skip
noncomputable def c20_18 : Code := match c20_16 with
  | .seq _ x => x
  | _ => .skip
theorem cd_c20_16 : c20_16 = .seq c20_17 c20_18 := by kernel_rfl
noncomputable def r20_17 : Array Oper := regAt [1, 0, 1, 1, 0, 1, 0, 1, 0] body20
theorem cd_c20_17 : c20_17 = .region 4 r20_17 false := by kernel_rfl
noncomputable def c20_19 : Code := match c20_18 with
  | .cond _ x _ => x
  | _ => .skip
theorem cd_c20_18 : c20_18 = .cond (.tmp 19) c20_19 .skip := by kernel_rfl
noncomputable def c20_21 : Code := match c20_19 with
  | .seq x _ => x
  | _ => .skip
theorem cd_c20_19 : c20_19 = .seq c20_21 .ret := by kernel_rfl
noncomputable def r20_21 : Array Oper := regAt [1, 0, 1, 1, 0, 1, 0, 1, 1, 1, 0] body20
theorem cd_c20_21 : c20_21 = .region 5 r20_21 false := by kernel_rfl
noncomputable def r20_15 : Array Oper := regAt [1, 0, 1, 1, 0, 1, 1] body20
theorem cd_c20_15 : c20_15 = .region 3 r20_15 false := by kernel_rfl
noncomputable def c20_22 : Code := match c20_4 with
  | .seq x _ => x
  | _ => .skip
theorem cd_c20_4 : c20_4 = .seq c20_22 .ret := by kernel_rfl
noncomputable def r20_22 : Array Oper := regAt [1, 1, 0] body20
theorem cd_c20_22 : c20_22 = .region 6 r20_22 false := by kernel_rfl
noncomputable def body21 : Code := match Try.f21.body with
  | some c => c
  | none => .skip
noncomputable def c21_1 : Code := match code21 with
  | .seq x _ => x
  | _ => .skip
noncomputable def c21_2 : Code := match code21 with
  | .seq _ x => x
  | _ => .skip
theorem cd_code21 : code21 = .seq c21_1 c21_2 := by kernel_rfl
noncomputable def r21_1 : Array Oper := regAt [0] body21
theorem cd_c21_1 : c21_1 = .region 0 r21_1 false := by kernel_rfl
noncomputable def c21_3 : Code := match c21_2 with
  | .seq x _ => x
  | _ => .skip
noncomputable def c21_4 : Code := match c21_2 with
  | .seq _ x => x
  | _ => .skip
theorem cd_c21_2 : c21_2 = .seq c21_3 c21_4 := by kernel_rfl
noncomputable def r21_3 : Array Oper := regAt [1, 0] body21
theorem cd_c21_3 : c21_3 = .region 1 r21_3 false := by kernel_rfl
noncomputable def c21_5 : Code := match c21_4 with
  | .seq x _ => x
  | _ => .skip
noncomputable def c21_6 : Code := match c21_4 with
  | .seq _ x => x
  | _ => .skip
theorem cd_c21_4 : c21_4 = .seq c21_5 c21_6 := by kernel_rfl
noncomputable def c21_7 : Code := match c21_5 with
  | .seq x _ => x
  | _ => .skip
noncomputable def c21_8 : Code := match c21_5 with
  | .seq _ x => x
  | _ => .skip
theorem cd_c21_5 : c21_5 = .seq c21_7 c21_8 := by kernel_rfl
noncomputable def r21_7 : Array Oper := regAt [1, 1, 0, 0] body21
theorem cd_c21_7 : c21_7 = .region 2 r21_7 false := by kernel_rfl
noncomputable def c21_9 : Code := match c21_8 with
  | .block _ x => x
  | _ => .skip
theorem cd_c21_8 : c21_8 = .block 0 c21_9 := by kernel_rfl
noncomputable def c21_10 : Code := match c21_9 with
  | .loop x => x
  | _ => .skip
theorem cd_c21_9 : c21_9 = .loop c21_10 := by kernel_rfl
noncomputable def c21_11 : Code := match c21_10 with
  | .seq x _ => x
  | _ => .skip
noncomputable def c21_12 : Code := match c21_10 with
  | .seq _ x => x
  | _ => .skip
theorem cd_c21_10 : c21_10 = .seq c21_11 c21_12 := by kernel_rfl
noncomputable def c21_13 : Code := match c21_11 with
  | .seq x _ => x
  | _ => .skip
noncomputable def c21_14 : Code := match c21_11 with
  | .seq _ x => x
  | _ => .skip
theorem cd_c21_11 : c21_11 = .seq c21_13 c21_14 := by kernel_rfl
noncomputable def r21_13 : Array Oper := regAt [1, 1, 0, 1, 1, 0, 0, 0] body21
theorem cd_c21_13 : c21_13 = .region 3 r21_13 false := by kernel_rfl
theorem cd_c21_14 : c21_14 = .cond (.tmp 8) .skip (.exit 0) := by kernel_rfl
noncomputable def c21_16 : Code := match c21_12 with
  | .seq x _ => x
  | _ => .skip
noncomputable def c21_17 : Code := match c21_12 with
  | .seq _ x => x
  | _ => .skip
theorem cd_c21_12 : c21_12 = .seq c21_16 c21_17 := by kernel_rfl
noncomputable def c21_18 : Code := match c21_16 with
  | .block _ x => x
  | _ => .skip
theorem cd_c21_16 : c21_16 = .block 1 c21_18 := by kernel_rfl
noncomputable def r21_18 : Array Oper := regAt [1, 1, 0, 1, 1, 0, 1, 0, 1] body21
theorem cd_c21_18 : c21_18 = .region 5 r21_18 false := by kernel_rfl
noncomputable def r21_17 : Array Oper := regAt [1, 1, 0, 1, 1, 0, 1, 1] body21
theorem cd_c21_17 : c21_17 = .region 4 r21_17 false := by kernel_rfl
noncomputable def c21_19 : Code := match c21_6 with
  | .seq x _ => x
  | _ => .skip
theorem cd_c21_6 : c21_6 = .seq c21_19 .ret := by kernel_rfl
noncomputable def r21_19 : Array Oper := regAt [1, 1, 1, 0] body21
theorem cd_c21_19 : c21_19 = .region 6 r21_19 false := by kernel_rfl
noncomputable def body22 : Code := match Try.f22.body with
  | some c => c
  | none => .skip
noncomputable def c22_1 : Code := match code22 with
  | .seq x _ => x
  | _ => .skip
noncomputable def c22_2 : Code := match code22 with
  | .seq _ x => x
  | _ => .skip
theorem cd_code22 : code22 = .seq c22_1 c22_2 := by kernel_rfl
noncomputable def r22_1 : Array Oper := regAt [0] body22
theorem cd_c22_1 : c22_1 = .region 0 r22_1 false := by kernel_rfl
noncomputable def c22_3 : Code := match c22_2 with
  | .seq x _ => x
  | _ => .skip
noncomputable def c22_4 : Code := match c22_2 with
  | .seq _ x => x
  | _ => .skip
theorem cd_c22_2 : c22_2 = .seq c22_3 c22_4 := by kernel_rfl
noncomputable def r22_3 : Array Oper := regAt [1, 0] body22
theorem cd_c22_3 : c22_3 = .region 1 r22_3 false := by kernel_rfl
noncomputable def c22_5 : Code := match c22_4 with
  | .seq x _ => x
  | _ => .skip
noncomputable def c22_6 : Code := match c22_4 with
  | .seq _ x => x
  | _ => .skip
theorem cd_c22_4 : c22_4 = .seq c22_5 c22_6 := by kernel_rfl
noncomputable def c22_7 : Code := match c22_5 with
  | .seq x _ => x
  | _ => .skip
noncomputable def c22_8 : Code := match c22_5 with
  | .seq _ x => x
  | _ => .skip
theorem cd_c22_5 : c22_5 = .seq c22_7 c22_8 := by kernel_rfl
noncomputable def r22_7 : Array Oper := regAt [1, 1, 0, 0] body22
theorem cd_c22_7 : c22_7 = .region 2 r22_7 false := by kernel_rfl
noncomputable def c22_9 : Code := match c22_8 with
  | .block _ x => x
  | _ => .skip
theorem cd_c22_8 : c22_8 = .block 0 c22_9 := by kernel_rfl
noncomputable def c22_10 : Code := match c22_9 with
  | .loop x => x
  | _ => .skip
theorem cd_c22_9 : c22_9 = .loop c22_10 := by kernel_rfl
noncomputable def c22_11 : Code := match c22_10 with
  | .seq x _ => x
  | _ => .skip
noncomputable def c22_12 : Code := match c22_10 with
  | .seq _ x => x
  | _ => .skip
theorem cd_c22_10 : c22_10 = .seq c22_11 c22_12 := by kernel_rfl
noncomputable def r22_11 : Array Oper := regAt [1, 1, 0, 1, 1, 0, 0] body22
theorem cd_c22_11 : c22_11 = .region 3 r22_11 false := by kernel_rfl
noncomputable def c22_13 : Code := match c22_12 with
  | .seq x _ => x
  | _ => .skip
noncomputable def c22_14 : Code := match c22_12 with
  | .seq _ x => x
  | _ => .skip
theorem cd_c22_12 : c22_12 = .seq c22_13 c22_14 := by kernel_rfl
theorem cd_c22_13 : c22_13 = .cond (.tmp 12) .skip (.exit 0) := by kernel_rfl
noncomputable def c22_16 : Code := match c22_14 with
  | .seq x _ => x
  | _ => .skip
noncomputable def c22_17 : Code := match c22_14 with
  | .seq _ x => x
  | _ => .skip
theorem cd_c22_14 : c22_14 = .seq c22_16 c22_17 := by kernel_rfl
noncomputable def c22_18 : Code := match c22_16 with
  | .block _ x => x
  | _ => .skip
theorem cd_c22_16 : c22_16 = .block 1 c22_18 := by kernel_rfl
noncomputable def c22_19 : Code := match c22_18 with
  | .seq x _ => x
  | _ => .skip
noncomputable def c22_20 : Code := match c22_18 with
  | .seq _ x => x
  | _ => .skip
theorem cd_c22_18 : c22_18 = .seq c22_19 c22_20 := by kernel_rfl
noncomputable def r22_19 : Array Oper := regAt [1, 1, 0, 1, 1, 0, 1, 1, 0, 1, 0] body22
theorem cd_c22_19 : c22_19 = .region 4 r22_19 false := by kernel_rfl
noncomputable def c22_21 : Code := match c22_20 with
  | .seq x _ => x
  | _ => .skip
noncomputable def c22_22 : Code := match c22_20 with
  | .seq _ x => x
  | _ => .skip
theorem cd_c22_20 : c22_20 = .seq c22_21 c22_22 := by kernel_rfl
noncomputable def r22_21 : Array Oper := regAt [1, 1, 0, 1, 1, 0, 1, 1, 0, 1, 1, 0] body22
theorem cd_c22_21 : c22_21 = .region 5 r22_21 false := by kernel_rfl
noncomputable def c22_23 : Code := match c22_22 with
  | .seq x _ => x
  | _ => .skip
noncomputable def c22_24 : Code := match c22_22 with
  | .seq _ x => x
  | _ => .skip
theorem cd_c22_22 : c22_22 = .seq c22_23 c22_24 := by kernel_rfl
noncomputable def c22_25 : Code := match c22_23 with
  | .seq x _ => x
  | _ => .skip
noncomputable def c22_26 : Code := match c22_23 with
  | .seq _ x => x
  | _ => .skip
theorem cd_c22_23 : c22_23 = .seq c22_25 c22_26 := by kernel_rfl
noncomputable def r22_25 : Array Oper := regAt [1, 1, 0, 1, 1, 0, 1, 1, 0, 1, 1, 1, 0, 0] body22
theorem cd_c22_25 : c22_25 = .region 6 r22_25 false := by kernel_rfl
noncomputable def c22_27 : Code := match c22_26 with
  | .cond _ x _ => x
  | _ => .skip
theorem cd_c22_26 : c22_26 = .cond (.tmp 21) c22_27 .skip := by kernel_rfl
noncomputable def c22_29 : Code := match c22_27 with
  | .seq x _ => x
  | _ => .skip
theorem cd_c22_27 : c22_27 = .seq c22_29 .ret := by kernel_rfl
noncomputable def r22_29 : Array Oper := regAt [1, 1, 0, 1, 1, 0, 1, 1, 0, 1, 1, 1, 0, 1, 1, 0] body22
theorem cd_c22_29 : c22_29 = .region 7 r22_29 false := by kernel_rfl
noncomputable def r22_24 : Array Oper := regAt [1, 1, 0, 1, 1, 0, 1, 1, 0, 1, 1, 1, 1] body22
theorem cd_c22_24 : c22_24 = .region 8 r22_24 false := by kernel_rfl
noncomputable def r22_17 : Array Oper := regAt [1, 1, 0, 1, 1, 0, 1, 1, 1] body22
theorem cd_c22_17 : c22_17 = .region 9 r22_17 false := by kernel_rfl
noncomputable def c22_30 : Code := match c22_6 with
  | .seq x _ => x
  | _ => .skip
theorem cd_c22_6 : c22_6 = .seq c22_30 .ret := by kernel_rfl
noncomputable def r22_30 : Array Oper := regAt [1, 1, 1, 0] body22
theorem cd_c22_30 : c22_30 = .region 10 r22_30 false := by kernel_rfl
noncomputable def body23 : Code := match Try.f23.body with
  | some c => c
  | none => .skip
noncomputable def c23_1 : Code := match code23 with
  | .seq x _ => x
  | _ => .skip
noncomputable def c23_2 : Code := match code23 with
  | .seq _ x => x
  | _ => .skip
theorem cd_code23 : code23 = .seq c23_1 c23_2 := by kernel_rfl
noncomputable def r23_1 : Array Oper := regAt [0] body23
theorem cd_c23_1 : c23_1 = .region 0 r23_1 false := by kernel_rfl
noncomputable def c23_3 : Code := match c23_2 with
  | .seq x _ => x
  | _ => .skip
noncomputable def c23_4 : Code := match c23_2 with
  | .seq _ x => x
  | _ => .skip
theorem cd_c23_2 : c23_2 = .seq c23_3 c23_4 := by kernel_rfl
noncomputable def r23_3 : Array Oper := regAt [1, 0] body23
theorem cd_c23_3 : c23_3 = .region 1 r23_3 false := by kernel_rfl
noncomputable def c23_5 : Code := match c23_4 with
  | .seq x _ => x
  | _ => .skip
noncomputable def c23_6 : Code := match c23_4 with
  | .seq _ x => x
  | _ => .skip
theorem cd_c23_4 : c23_4 = .seq c23_5 c23_6 := by kernel_rfl
noncomputable def c23_7 : Code := match c23_5 with
  | .seq x _ => x
  | _ => .skip
noncomputable def c23_8 : Code := match c23_5 with
  | .seq _ x => x
  | _ => .skip
theorem cd_c23_5 : c23_5 = .seq c23_7 c23_8 := by kernel_rfl
noncomputable def r23_7 : Array Oper := regAt [1, 1, 0, 0] body23
theorem cd_c23_7 : c23_7 = .region 2 r23_7 false := by kernel_rfl
noncomputable def c23_9 : Code := match c23_8 with
  | .block _ x => x
  | _ => .skip
theorem cd_c23_8 : c23_8 = .block 0 c23_9 := by kernel_rfl
noncomputable def c23_10 : Code := match c23_9 with
  | .loop x => x
  | _ => .skip
theorem cd_c23_9 : c23_9 = .loop c23_10 := by kernel_rfl
noncomputable def c23_11 : Code := match c23_10 with
  | .seq x _ => x
  | _ => .skip
noncomputable def c23_12 : Code := match c23_10 with
  | .seq _ x => x
  | _ => .skip
theorem cd_c23_10 : c23_10 = .seq c23_11 c23_12 := by kernel_rfl
noncomputable def c23_13 : Code := match c23_11 with
  | .seq x _ => x
  | _ => .skip
noncomputable def c23_14 : Code := match c23_11 with
  | .seq _ x => x
  | _ => .skip
theorem cd_c23_11 : c23_11 = .seq c23_13 c23_14 := by kernel_rfl
noncomputable def r23_13 : Array Oper := regAt [1, 1, 0, 1, 1, 0, 0, 0] body23
theorem cd_c23_13 : c23_13 = .region 3 r23_13 false := by kernel_rfl
theorem cd_c23_14 : c23_14 = .cond (.tmp 11) .skip (.exit 0) := by kernel_rfl
noncomputable def c23_16 : Code := match c23_12 with
  | .seq x _ => x
  | _ => .skip
noncomputable def c23_17 : Code := match c23_12 with
  | .seq _ x => x
  | _ => .skip
theorem cd_c23_12 : c23_12 = .seq c23_16 c23_17 := by kernel_rfl
noncomputable def c23_18 : Code := match c23_16 with
  | .block _ x => x
  | _ => .skip
theorem cd_c23_16 : c23_16 = .block 1 c23_18 := by kernel_rfl
noncomputable def c23_19 : Code := match c23_18 with
  | .seq x _ => x
  | _ => .skip
noncomputable def c23_20 : Code := match c23_18 with
  | .seq _ x => x
  | _ => .skip
theorem cd_c23_18 : c23_18 = .seq c23_19 c23_20 := by kernel_rfl
noncomputable def r23_19 : Array Oper := regAt [1, 1, 0, 1, 1, 0, 1, 0, 1, 0] body23
theorem cd_c23_19 : c23_19 = .region 5 r23_19 false := by kernel_rfl
noncomputable def c23_21 : Code := match c23_20 with
  | .seq x _ => x
  | _ => .skip
noncomputable def c23_22 : Code := match c23_20 with
  | .seq _ x => x
  | _ => .skip
theorem cd_c23_20 : c23_20 = .seq c23_21 c23_22 := by kernel_rfl
noncomputable def c23_23 : Code := match c23_21 with
  | .seq x _ => x
  | _ => .skip
noncomputable def c23_24 : Code := match c23_21 with
  | .seq _ x => x
  | _ => .skip
theorem cd_c23_21 : c23_21 = .seq c23_23 c23_24 := by kernel_rfl
noncomputable def r23_23 : Array Oper := regAt [1, 1, 0, 1, 1, 0, 1, 0, 1, 1, 0, 0] body23
theorem cd_c23_23 : c23_23 = .region 6 r23_23 false := by kernel_rfl
noncomputable def c23_25 : Code := match c23_24 with
  | .cond _ x _ => x
  | _ => .skip
theorem cd_c23_24 : c23_24 = .cond (.tmp 23) c23_25 .skip := by kernel_rfl
noncomputable def c23_27 : Code := match c23_25 with
  | .seq x _ => x
  | _ => .skip
theorem cd_c23_25 : c23_25 = .seq c23_27 .ret := by kernel_rfl
noncomputable def r23_27 : Array Oper := regAt [1, 1, 0, 1, 1, 0, 1, 0, 1, 1, 0, 1, 1, 0] body23
theorem cd_c23_27 : c23_27 = .region 7 r23_27 false := by kernel_rfl
noncomputable def r23_22 : Array Oper := regAt [1, 1, 0, 1, 1, 0, 1, 0, 1, 1, 1] body23
theorem cd_c23_22 : c23_22 = .region 8 r23_22 false := by kernel_rfl
noncomputable def r23_17 : Array Oper := regAt [1, 1, 0, 1, 1, 0, 1, 1] body23
theorem cd_c23_17 : c23_17 = .region 4 r23_17 false := by kernel_rfl
noncomputable def c23_28 : Code := match c23_6 with
  | .seq x _ => x
  | _ => .skip
theorem cd_c23_6 : c23_6 = .seq c23_28 .ret := by kernel_rfl
noncomputable def r23_28 : Array Oper := regAt [1, 1, 1, 0] body23
theorem cd_c23_28 : c23_28 = .region 9 r23_28 false := by kernel_rfl
noncomputable def body24 : Code := match Try.f24.body with
  | some c => c
  | none => .skip
noncomputable def c24_1 : Code := match code24 with
  | .seq x _ => x
  | _ => .skip
noncomputable def c24_2 : Code := match code24 with
  | .seq _ x => x
  | _ => .skip
theorem cd_code24 : code24 = .seq c24_1 c24_2 := by kernel_rfl
noncomputable def r24_1 : Array Oper := regAt [0] body24
theorem cd_c24_1 : c24_1 = .region 0 r24_1 false := by kernel_rfl
noncomputable def c24_3 : Code := match c24_2 with
  | .seq x _ => x
  | _ => .skip
theorem cd_c24_2 : c24_2 = .seq c24_3 .ret := by kernel_rfl
noncomputable def r24_3 : Array Oper := regAt [1, 0] body24
theorem cd_c24_3 : c24_3 = .region 1 r24_3 false := by kernel_rfl
noncomputable def body25 : Code := match Try.f25.body with
  | some c => c
  | none => .skip
noncomputable def c25_1 : Code := match code25 with
  | .seq x _ => x
  | _ => .skip
noncomputable def c25_2 : Code := match code25 with
  | .seq _ x => x
  | _ => .skip
theorem cd_code25 : code25 = .seq c25_1 c25_2 := by kernel_rfl
noncomputable def r25_1 : Array Oper := regAt [0] body25
theorem cd_c25_1 : c25_1 = .region 0 r25_1 false := by kernel_rfl
noncomputable def c25_3 : Code := match c25_2 with
  | .seq x _ => x
  | _ => .skip
noncomputable def c25_4 : Code := match c25_2 with
  | .seq _ x => x
  | _ => .skip
theorem cd_c25_2 : c25_2 = .seq c25_3 c25_4 := by kernel_rfl
noncomputable def c25_5 : Code := match c25_3 with
  | .seq x _ => x
  | _ => .skip
noncomputable def c25_6 : Code := match c25_3 with
  | .seq _ x => x
  | _ => .skip
theorem cd_c25_3 : c25_3 = .seq c25_5 c25_6 := by kernel_rfl
noncomputable def r25_5 : Array Oper := regAt [1, 0, 0] body25
theorem cd_c25_5 : c25_5 = .region 1 r25_5 false := by kernel_rfl
noncomputable def c25_7 : Code := match c25_6 with
  | .cond _ x _ => x
  | _ => .skip
theorem cd_c25_6 : c25_6 = .cond (.tmp 8) c25_7 .skip := by kernel_rfl
noncomputable def c25_9 : Code := match c25_7 with
  | .seq x _ => x
  | _ => .skip
theorem cd_c25_7 : c25_7 = .seq c25_9 .ret := by kernel_rfl
noncomputable def r25_9 : Array Oper := regAt [1, 0, 1, 1, 0] body25
theorem cd_c25_9 : c25_9 = .region 2 r25_9 false := by kernel_rfl
noncomputable def c25_10 : Code := match c25_4 with
  | .seq x _ => x
  | _ => .skip
theorem cd_c25_4 : c25_4 = .seq c25_10 .ret := by kernel_rfl
noncomputable def r25_10 : Array Oper := regAt [1, 1, 0] body25
theorem cd_c25_10 : c25_10 = .region 3 r25_10 false := by kernel_rfl
noncomputable def body26 : Code := match Try.f26.body with
  | some c => c
  | none => .skip
noncomputable def c26_1 : Code := match code26 with
  | .seq x _ => x
  | _ => .skip
noncomputable def c26_2 : Code := match code26 with
  | .seq _ x => x
  | _ => .skip
theorem cd_code26 : code26 = .seq c26_1 c26_2 := by kernel_rfl
noncomputable def r26_1 : Array Oper := regAt [0] body26
theorem cd_c26_1 : c26_1 = .region 0 r26_1 false := by kernel_rfl
noncomputable def c26_3 : Code := match c26_2 with
  | .seq x _ => x
  | _ => .skip
noncomputable def c26_4 : Code := match c26_2 with
  | .seq _ x => x
  | _ => .skip
theorem cd_c26_2 : c26_2 = .seq c26_3 c26_4 := by kernel_rfl
noncomputable def c26_5 : Code := match c26_3 with
  | .seq x _ => x
  | _ => .skip
noncomputable def c26_6 : Code := match c26_3 with
  | .seq _ x => x
  | _ => .skip
theorem cd_c26_3 : c26_3 = .seq c26_5 c26_6 := by kernel_rfl
noncomputable def r26_5 : Array Oper := regAt [1, 0, 0] body26
theorem cd_c26_5 : c26_5 = .region 1 r26_5 false := by kernel_rfl
noncomputable def c26_7 : Code := match c26_6 with
  | .cond _ x _ => x
  | _ => .skip
theorem cd_c26_6 : c26_6 = .cond (.tmp 7) c26_7 .skip := by kernel_rfl
noncomputable def c26_9 : Code := match c26_7 with
  | .seq x _ => x
  | _ => .skip
theorem cd_c26_7 : c26_7 = .seq c26_9 .ret := by kernel_rfl
noncomputable def r26_9 : Array Oper := regAt [1, 0, 1, 1, 0] body26
theorem cd_c26_9 : c26_9 = .region 2 r26_9 false := by kernel_rfl
noncomputable def c26_10 : Code := match c26_4 with
  | .seq x _ => x
  | _ => .skip
noncomputable def c26_11 : Code := match c26_4 with
  | .seq _ x => x
  | _ => .skip
theorem cd_c26_4 : c26_4 = .seq c26_10 c26_11 := by kernel_rfl
noncomputable def c26_12 : Code := match c26_10 with
  | .seq x _ => x
  | _ => .skip
noncomputable def c26_13 : Code := match c26_10 with
  | .seq _ x => x
  | _ => .skip
theorem cd_c26_10 : c26_10 = .seq c26_12 c26_13 := by kernel_rfl
noncomputable def r26_12 : Array Oper := regAt [1, 1, 0, 0] body26
theorem cd_c26_12 : c26_12 = .region 3 r26_12 false := by kernel_rfl
noncomputable def c26_14 : Code := match c26_13 with
  | .cond _ x _ => x
  | _ => .skip
theorem cd_c26_13 : c26_13 = .cond (.tmp 10) c26_14 .skip := by kernel_rfl
noncomputable def c26_16 : Code := match c26_14 with
  | .seq x _ => x
  | _ => .skip
theorem cd_c26_14 : c26_14 = .seq c26_16 .ret := by kernel_rfl
noncomputable def r26_16 : Array Oper := regAt [1, 1, 0, 1, 1, 0] body26
theorem cd_c26_16 : c26_16 = .region 4 r26_16 false := by kernel_rfl
noncomputable def c26_17 : Code := match c26_11 with
  | .seq x _ => x
  | _ => .skip
noncomputable def c26_18 : Code := match c26_11 with
  | .seq _ x => x
  | _ => .skip
theorem cd_c26_11 : c26_11 = .seq c26_17 c26_18 := by kernel_rfl
noncomputable def r26_17 : Array Oper := regAt [1, 1, 1, 0] body26
theorem cd_c26_17 : c26_17 = .region 5 r26_17 false := by kernel_rfl
noncomputable def c26_19 : Code := match c26_18 with
  | .seq x _ => x
  | _ => .skip
theorem cd_c26_18 : c26_18 = .seq c26_19 .ret := by kernel_rfl
noncomputable def r26_19 : Array Oper := regAt [1, 1, 1, 1, 0] body26
theorem cd_c26_19 : c26_19 = .region 6 r26_19 false := by kernel_rfl
noncomputable def body27 : Code := match Try.f27.body with
  | some c => c
  | none => .skip
noncomputable def c27_1 : Code := match code27 with
  | .seq x _ => x
  | _ => .skip
noncomputable def c27_2 : Code := match code27 with
  | .seq _ x => x
  | _ => .skip
theorem cd_code27 : code27 = .seq c27_1 c27_2 := by kernel_rfl
noncomputable def r27_1 : Array Oper := regAt [0] body27
theorem cd_c27_1 : c27_1 = .region 0 r27_1 false := by kernel_rfl
noncomputable def c27_3 : Code := match c27_2 with
  | .seq x _ => x
  | _ => .skip
noncomputable def c27_4 : Code := match c27_2 with
  | .seq _ x => x
  | _ => .skip
theorem cd_c27_2 : c27_2 = .seq c27_3 c27_4 := by kernel_rfl
noncomputable def c27_5 : Code := match c27_3 with
  | .seq x _ => x
  | _ => .skip
noncomputable def c27_6 : Code := match c27_3 with
  | .seq _ x => x
  | _ => .skip
theorem cd_c27_3 : c27_3 = .seq c27_5 c27_6 := by kernel_rfl
noncomputable def r27_5 : Array Oper := regAt [1, 0, 0] body27
theorem cd_c27_5 : c27_5 = .region 1 r27_5 false := by kernel_rfl
noncomputable def c27_7 : Code := match c27_6 with
  | .cond _ x _ => x
  | _ => .skip
theorem cd_c27_6 : c27_6 = .cond (.tmp 6) c27_7 .skip := by kernel_rfl
noncomputable def c27_9 : Code := match c27_7 with
  | .seq x _ => x
  | _ => .skip
theorem cd_c27_7 : c27_7 = .seq c27_9 .ret := by kernel_rfl
noncomputable def r27_9 : Array Oper := regAt [1, 0, 1, 1, 0] body27
theorem cd_c27_9 : c27_9 = .region 2 r27_9 false := by kernel_rfl
noncomputable def c27_10 : Code := match c27_4 with
  | .seq x _ => x
  | _ => .skip
noncomputable def c27_11 : Code := match c27_4 with
  | .seq _ x => x
  | _ => .skip
theorem cd_c27_4 : c27_4 = .seq c27_10 c27_11 := by kernel_rfl
noncomputable def r27_10 : Array Oper := regAt [1, 1, 0] body27
theorem cd_c27_10 : c27_10 = .region 3 r27_10 false := by kernel_rfl
noncomputable def c27_12 : Code := match c27_11 with
  | .seq x _ => x
  | _ => .skip
noncomputable def c27_13 : Code := match c27_11 with
  | .seq _ x => x
  | _ => .skip
theorem cd_c27_11 : c27_11 = .seq c27_12 c27_13 := by kernel_rfl
noncomputable def c27_14 : Code := match c27_12 with
  | .seq x _ => x
  | _ => .skip
noncomputable def c27_15 : Code := match c27_12 with
  | .seq _ x => x
  | _ => .skip
theorem cd_c27_12 : c27_12 = .seq c27_14 c27_15 := by kernel_rfl
noncomputable def r27_14 : Array Oper := regAt [1, 1, 1, 0, 0] body27
theorem cd_c27_14 : c27_14 = .region 4 r27_14 false := by kernel_rfl
noncomputable def c27_16 : Code := match c27_15 with
  | .cond _ x _ => x
  | _ => .skip
theorem cd_c27_15 : c27_15 = .cond (.tmp 11) c27_16 .skip := by kernel_rfl
noncomputable def r27_16 : Array Oper := regAt [1, 1, 1, 0, 1, 1] body27
theorem cd_c27_16 : c27_16 = .region 5 r27_16 false := by kernel_rfl
noncomputable def c27_18 : Code := match c27_13 with
  | .seq x _ => x
  | _ => .skip
theorem cd_c27_13 : c27_13 = .seq c27_18 .ret := by kernel_rfl
noncomputable def r27_18 : Array Oper := regAt [1, 1, 1, 1, 0] body27
theorem cd_c27_18 : c27_18 = .region 6 r27_18 false := by kernel_rfl
noncomputable def body28 : Code := match Try.f28.body with
  | some c => c
  | none => .skip
noncomputable def c28_1 : Code := match code28 with
  | .seq x _ => x
  | _ => .skip
noncomputable def c28_2 : Code := match code28 with
  | .seq _ x => x
  | _ => .skip
theorem cd_code28 : code28 = .seq c28_1 c28_2 := by kernel_rfl
noncomputable def r28_1 : Array Oper := regAt [0] body28
theorem cd_c28_1 : c28_1 = .region 0 r28_1 false := by kernel_rfl
noncomputable def c28_3 : Code := match c28_2 with
  | .seq x _ => x
  | _ => .skip
theorem cd_c28_2 : c28_2 = .seq c28_3 .ret := by kernel_rfl
noncomputable def r28_3 : Array Oper := regAt [1, 0] body28
theorem cd_c28_3 : c28_3 = .region 1 r28_3 false := by kernel_rfl
noncomputable def body29 : Code := match Try.f29.body with
  | some c => c
  | none => .skip
noncomputable def c29_1 : Code := match code29 with
  | .seq x _ => x
  | _ => .skip
noncomputable def c29_2 : Code := match code29 with
  | .seq _ x => x
  | _ => .skip
theorem cd_code29 : code29 = .seq c29_1 c29_2 := by kernel_rfl
noncomputable def r29_1 : Array Oper := regAt [0] body29
theorem cd_c29_1 : c29_1 = .region 0 r29_1 false := by kernel_rfl
noncomputable def c29_3 : Code := match c29_2 with
  | .seq x _ => x
  | _ => .skip
theorem cd_c29_2 : c29_2 = .seq c29_3 .ret := by kernel_rfl
noncomputable def r29_3 : Array Oper := regAt [1, 0] body29
theorem cd_c29_3 : c29_3 = .region 1 r29_3 false := by kernel_rfl
noncomputable def body30 : Code := match Try.f30.body with
  | some c => c
  | none => .skip
noncomputable def c30_1 : Code := match code30 with
  | .seq x _ => x
  | _ => .skip
noncomputable def c30_2 : Code := match code30 with
  | .seq _ x => x
  | _ => .skip
theorem cd_code30 : code30 = .seq c30_1 c30_2 := by kernel_rfl
noncomputable def r30_1 : Array Oper := regAt [0] body30
theorem cd_c30_1 : c30_1 = .region 0 r30_1 false := by kernel_rfl
noncomputable def c30_3 : Code := match c30_2 with
  | .seq x _ => x
  | _ => .skip
theorem cd_c30_2 : c30_2 = .seq c30_3 .ret := by kernel_rfl
noncomputable def r30_3 : Array Oper := regAt [1, 0] body30
theorem cd_c30_3 : c30_3 = .region 1 r30_3 false := by kernel_rfl
noncomputable def body31 : Code := match Try.f31.body with
  | some c => c
  | none => .skip
noncomputable def c31_1 : Code := match code31 with
  | .seq x _ => x
  | _ => .skip
noncomputable def c31_2 : Code := match code31 with
  | .seq _ x => x
  | _ => .skip
theorem cd_code31 : code31 = .seq c31_1 c31_2 := by kernel_rfl
noncomputable def r31_1 : Array Oper := regAt [0] body31
theorem cd_c31_1 : c31_1 = .region 0 r31_1 false := by kernel_rfl
noncomputable def c31_3 : Code := match c31_2 with
  | .seq x _ => x
  | _ => .skip
noncomputable def c31_4 : Code := match c31_2 with
  | .seq _ x => x
  | _ => .skip
theorem cd_c31_2 : c31_2 = .seq c31_3 c31_4 := by kernel_rfl
noncomputable def c31_5 : Code := match c31_3 with
  | .seq x _ => x
  | _ => .skip
noncomputable def c31_6 : Code := match c31_3 with
  | .seq _ x => x
  | _ => .skip
theorem cd_c31_3 : c31_3 = .seq c31_5 c31_6 := by kernel_rfl
noncomputable def r31_5 : Array Oper := regAt [1, 0, 0] body31
theorem cd_c31_5 : c31_5 = .region 1 r31_5 false := by kernel_rfl
noncomputable def c31_7 : Code := match c31_6 with
  | .cond _ x _ => x
  | _ => .skip
theorem cd_c31_6 : c31_6 = .cond (.tmp 7) c31_7 .skip := by kernel_rfl
noncomputable def c31_9 : Code := match c31_7 with
  | .seq x _ => x
  | _ => .skip
theorem cd_c31_7 : c31_7 = .seq c31_9 .ret := by kernel_rfl
noncomputable def r31_9 : Array Oper := regAt [1, 0, 1, 1, 0] body31
theorem cd_c31_9 : c31_9 = .region 2 r31_9 false := by kernel_rfl
noncomputable def c31_10 : Code := match c31_4 with
  | .seq x _ => x
  | _ => .skip
noncomputable def c31_11 : Code := match c31_4 with
  | .seq _ x => x
  | _ => .skip
theorem cd_c31_4 : c31_4 = .seq c31_10 c31_11 := by kernel_rfl
noncomputable def r31_10 : Array Oper := regAt [1, 1, 0] body31
theorem cd_c31_10 : c31_10 = .region 3 r31_10 false := by kernel_rfl
noncomputable def c31_12 : Code := match c31_11 with
  | .seq x _ => x
  | _ => .skip
noncomputable def c31_13 : Code := match c31_11 with
  | .seq _ x => x
  | _ => .skip
theorem cd_c31_11 : c31_11 = .seq c31_12 c31_13 := by kernel_rfl
noncomputable def c31_14 : Code := match c31_12 with
  | .seq x _ => x
  | _ => .skip
noncomputable def c31_15 : Code := match c31_12 with
  | .seq _ x => x
  | _ => .skip
theorem cd_c31_12 : c31_12 = .seq c31_14 c31_15 := by kernel_rfl
noncomputable def r31_14 : Array Oper := regAt [1, 1, 1, 0, 0] body31
theorem cd_c31_14 : c31_14 = .region 4 r31_14 false := by kernel_rfl
noncomputable def c31_16 : Code := match c31_15 with
  | .cond _ x _ => x
  | _ => .skip
theorem cd_c31_15 : c31_15 = .cond (.tmp 23) c31_16 .skip := by kernel_rfl
noncomputable def c31_18 : Code := match c31_16 with
  | .seq x _ => x
  | _ => .skip
theorem cd_c31_16 : c31_16 = .seq c31_18 .ret := by kernel_rfl
noncomputable def r31_18 : Array Oper := regAt [1, 1, 1, 0, 1, 1, 0] body31
theorem cd_c31_18 : c31_18 = .region 5 r31_18 false := by kernel_rfl
noncomputable def c31_19 : Code := match c31_13 with
  | .seq x _ => x
  | _ => .skip
noncomputable def c31_20 : Code := match c31_13 with
  | .seq _ x => x
  | _ => .skip
theorem cd_c31_13 : c31_13 = .seq c31_19 c31_20 := by kernel_rfl
noncomputable def r31_19 : Array Oper := regAt [1, 1, 1, 1, 0] body31
theorem cd_c31_19 : c31_19 = .region 6 r31_19 false := by kernel_rfl
noncomputable def c31_21 : Code := match c31_20 with
  | .seq x _ => x
  | _ => .skip
noncomputable def c31_22 : Code := match c31_20 with
  | .seq _ x => x
  | _ => .skip
theorem cd_c31_20 : c31_20 = .seq c31_21 c31_22 := by kernel_rfl
noncomputable def c31_23 : Code := match c31_21 with
  | .seq x _ => x
  | _ => .skip
noncomputable def c31_24 : Code := match c31_21 with
  | .seq _ x => x
  | _ => .skip
theorem cd_c31_21 : c31_21 = .seq c31_23 c31_24 := by kernel_rfl
noncomputable def r31_23 : Array Oper := regAt [1, 1, 1, 1, 1, 0, 0] body31
theorem cd_c31_23 : c31_23 = .region 7 r31_23 true := by kernel_rfl
noncomputable def c31_25 : Code := match c31_24 with
  | .cond _ x _ => x
  | _ => .skip
theorem cd_c31_24 : c31_24 = .cond (.tmp 34) c31_25 .skip := by kernel_rfl
noncomputable def c31_27 : Code := match c31_25 with
  | .seq x _ => x
  | _ => .skip
theorem cd_c31_25 : c31_25 = .seq c31_27 .ret := by kernel_rfl
noncomputable def r31_27 : Array Oper := regAt [1, 1, 1, 1, 1, 0, 1, 1, 0] body31
theorem cd_c31_27 : c31_27 = .region 8 r31_27 false := by kernel_rfl
noncomputable def c31_28 : Code := match c31_22 with
  | .seq x _ => x
  | _ => .skip
theorem cd_c31_22 : c31_22 = .seq c31_28 .ret := by kernel_rfl
noncomputable def r31_28 : Array Oper := regAt [1, 1, 1, 1, 1, 1, 0] body31
theorem cd_c31_28 : c31_28 = .region 9 r31_28 false := by kernel_rfl
noncomputable def body32 : Code := match Try.f32.body with
  | some c => c
  | none => .skip
noncomputable def c32_1 : Code := match code32 with
  | .seq x _ => x
  | _ => .skip
noncomputable def c32_2 : Code := match code32 with
  | .seq _ x => x
  | _ => .skip
theorem cd_code32 : code32 = .seq c32_1 c32_2 := by kernel_rfl
noncomputable def r32_1 : Array Oper := regAt [0] body32
theorem cd_c32_1 : c32_1 = .region 0 r32_1 false := by kernel_rfl
noncomputable def c32_3 : Code := match c32_2 with
  | .seq x _ => x
  | _ => .skip
theorem cd_c32_2 : c32_2 = .seq c32_3 .ret := by kernel_rfl
noncomputable def r32_3 : Array Oper := regAt [1, 0] body32
theorem cd_c32_3 : c32_3 = .region 1 r32_3 false := by kernel_rfl
noncomputable def body33 : Code := match Try.f33.body with
  | some c => c
  | none => .skip
noncomputable def c33_1 : Code := match code33 with
  | .seq x _ => x
  | _ => .skip
noncomputable def c33_2 : Code := match code33 with
  | .seq _ x => x
  | _ => .skip
theorem cd_code33 : code33 = .seq c33_1 c33_2 := by kernel_rfl
noncomputable def r33_1 : Array Oper := regAt [0] body33
theorem cd_c33_1 : c33_1 = .region 0 r33_1 false := by kernel_rfl
noncomputable def c33_3 : Code := match c33_2 with
  | .block _ x => x
  | _ => .skip
theorem cd_c33_2 : c33_2 = .block 0 c33_3 := by kernel_rfl
noncomputable def c33_4 : Code := match c33_3 with
  | .loop x => x
  | _ => .skip
theorem cd_c33_3 : c33_3 = .loop c33_4 := by kernel_rfl
noncomputable def c33_5 : Code := match c33_4 with
  | .seq x _ => x
  | _ => .skip
noncomputable def c33_6 : Code := match c33_4 with
  | .seq _ x => x
  | _ => .skip
theorem cd_c33_4 : c33_4 = .seq c33_5 c33_6 := by kernel_rfl
noncomputable def r33_5 : Array Oper := regAt [1, 1, 0, 0] body33
theorem cd_c33_5 : c33_5 = .region 1 r33_5 false := by kernel_rfl
noncomputable def c33_7 : Code := match c33_6 with
  | .seq x _ => x
  | _ => .skip
noncomputable def c33_8 : Code := match c33_6 with
  | .seq _ x => x
  | _ => .skip
theorem cd_c33_6 : c33_6 = .seq c33_7 c33_8 := by kernel_rfl
theorem cd_c33_7 : c33_7 = .cond (.tmp 6) .skip (.exit 0) := by kernel_rfl
noncomputable def c33_10 : Code := match c33_8 with
  | .seq x _ => x
  | _ => .skip
noncomputable def c33_11 : Code := match c33_8 with
  | .seq _ x => x
  | _ => .skip
theorem cd_c33_8 : c33_8 = .seq c33_10 c33_11 := by kernel_rfl
noncomputable def c33_12 : Code := match c33_10 with
  | .block _ x => x
  | _ => .skip
theorem cd_c33_10 : c33_10 = .block 1 c33_12 := by kernel_rfl
noncomputable def c33_13 : Code := match c33_12 with
  | .seq x _ => x
  | _ => .skip
noncomputable def c33_14 : Code := match c33_12 with
  | .seq _ x => x
  | _ => .skip
theorem cd_c33_12 : c33_12 = .seq c33_13 c33_14 := by kernel_rfl
noncomputable def r33_13 : Array Oper := regAt [1, 1, 0, 1, 1, 0, 1, 0] body33
theorem cd_c33_13 : c33_13 = .region 2 r33_13 false := by kernel_rfl
noncomputable def r33_14 : Array Oper := regAt [1, 1, 0, 1, 1, 0, 1, 1] body33
theorem cd_c33_14 : c33_14 = .region 3 r33_14 false := by kernel_rfl
noncomputable def r33_11 : Array Oper := regAt [1, 1, 0, 1, 1, 1] body33
theorem cd_c33_11 : c33_11 = .region 4 r33_11 false := by kernel_rfl
noncomputable def body34 : Code := match Try.f34.body with
  | some c => c
  | none => .skip
noncomputable def c34_1 : Code := match code34 with
  | .seq x _ => x
  | _ => .skip
noncomputable def c34_2 : Code := match code34 with
  | .seq _ x => x
  | _ => .skip
theorem cd_code34 : code34 = .seq c34_1 c34_2 := by kernel_rfl
noncomputable def r34_1 : Array Oper := regAt [0] body34
theorem cd_c34_1 : c34_1 = .region 0 r34_1 false := by kernel_rfl
noncomputable def c34_3 : Code := match c34_2 with
  | .seq x _ => x
  | _ => .skip
theorem cd_c34_2 : c34_2 = .seq c34_3 .ret := by kernel_rfl
noncomputable def r34_3 : Array Oper := regAt [1, 0] body34
theorem cd_c34_3 : c34_3 = .region 1 r34_3 false := by kernel_rfl
noncomputable def body35 : Code := match Try.f35.body with
  | some c => c
  | none => .skip
noncomputable def c35_1 : Code := match code35 with
  | .seq x _ => x
  | _ => .skip
noncomputable def c35_2 : Code := match code35 with
  | .seq _ x => x
  | _ => .skip
theorem cd_code35 : code35 = .seq c35_1 c35_2 := by kernel_rfl
noncomputable def r35_1 : Array Oper := regAt [0] body35
theorem cd_c35_1 : c35_1 = .region 0 r35_1 false := by kernel_rfl
noncomputable def c35_3 : Code := match c35_2 with
  | .seq x _ => x
  | _ => .skip
theorem cd_c35_2 : c35_2 = .seq c35_3 .ret := by kernel_rfl
noncomputable def r35_3 : Array Oper := regAt [1, 0] body35
theorem cd_c35_3 : c35_3 = .region 1 r35_3 false := by kernel_rfl
noncomputable def body36 : Code := match Try.f36.body with
  | some c => c
  | none => .skip
noncomputable def c36_1 : Code := match code36 with
  | .seq x _ => x
  | _ => .skip
noncomputable def c36_2 : Code := match code36 with
  | .seq _ x => x
  | _ => .skip
theorem cd_code36 : code36 = .seq c36_1 c36_2 := by kernel_rfl
noncomputable def r36_1 : Array Oper := regAt [0] body36
theorem cd_c36_1 : c36_1 = .region 0 r36_1 false := by kernel_rfl
noncomputable def c36_3 : Code := match c36_2 with
  | .seq x _ => x
  | _ => .skip
theorem cd_c36_2 : c36_2 = .seq c36_3 .ret := by kernel_rfl
noncomputable def r36_3 : Array Oper := regAt [1, 0] body36
theorem cd_c36_3 : c36_3 = .region 1 r36_3 false := by kernel_rfl
noncomputable def body37 : Code := match Try.f37.body with
  | some c => c
  | none => .skip
noncomputable def c37_1 : Code := match code37 with
  | .seq x _ => x
  | _ => .skip
noncomputable def c37_2 : Code := match code37 with
  | .seq _ x => x
  | _ => .skip
theorem cd_code37 : code37 = .seq c37_1 c37_2 := by kernel_rfl
noncomputable def r37_1 : Array Oper := regAt [0] body37
theorem cd_c37_1 : c37_1 = .region 0 r37_1 false := by kernel_rfl
noncomputable def c37_3 : Code := match c37_2 with
  | .block _ x => x
  | _ => .skip
theorem cd_c37_2 : c37_2 = .block 0 c37_3 := by kernel_rfl
noncomputable def c37_4 : Code := match c37_3 with
  | .loop x => x
  | _ => .skip
theorem cd_c37_3 : c37_3 = .loop c37_4 := by kernel_rfl
noncomputable def c37_5 : Code := match c37_4 with
  | .seq x _ => x
  | _ => .skip
noncomputable def c37_6 : Code := match c37_4 with
  | .seq _ x => x
  | _ => .skip
theorem cd_c37_4 : c37_4 = .seq c37_5 c37_6 := by kernel_rfl
noncomputable def c37_7 : Code := match c37_5 with
  | .seq x _ => x
  | _ => .skip
noncomputable def c37_8 : Code := match c37_5 with
  | .seq _ x => x
  | _ => .skip
theorem cd_c37_5 : c37_5 = .seq c37_7 c37_8 := by kernel_rfl
noncomputable def r37_7 : Array Oper := regAt [1, 1, 0, 0, 0] body37
theorem cd_c37_7 : c37_7 = .region 1 r37_7 false := by kernel_rfl
theorem cd_c37_8 : c37_8 = .cond (.tmp 10) .skip (.exit 0) := by kernel_rfl
noncomputable def c37_10 : Code := match c37_6 with
  | .block _ x => x
  | _ => .skip
theorem cd_c37_6 : c37_6 = .block 1 c37_10 := by kernel_rfl
noncomputable def c37_11 : Code := match c37_10 with
  | .seq x _ => x
  | _ => .skip
noncomputable def c37_12 : Code := match c37_10 with
  | .seq _ x => x
  | _ => .skip
theorem cd_c37_10 : c37_10 = .seq c37_11 c37_12 := by kernel_rfl
noncomputable def r37_11 : Array Oper := regAt [1, 1, 0, 1, 1, 0] body37
theorem cd_c37_11 : c37_11 = .region 2 r37_11 false := by kernel_rfl
noncomputable def c37_13 : Code := match c37_12 with
  | .seq x _ => x
  | _ => .skip
noncomputable def c37_14 : Code := match c37_12 with
  | .seq _ x => x
  | _ => .skip
theorem cd_c37_12 : c37_12 = .seq c37_13 c37_14 := by kernel_rfl
noncomputable def c37_15 : Code := match c37_13 with
  | .seq x _ => x
  | _ => .skip
noncomputable def c37_16 : Code := match c37_13 with
  | .seq _ x => x
  | _ => .skip
theorem cd_c37_13 : c37_13 = .seq c37_15 c37_16 := by kernel_rfl
noncomputable def r37_15 : Array Oper := regAt [1, 1, 0, 1, 1, 1, 0, 0] body37
theorem cd_c37_15 : c37_15 = .region 3 r37_15 false := by kernel_rfl
theorem cd_c37_16 : c37_16 = .cond (.tmp 32) .ret .skip := by kernel_rfl
noncomputable def c37_18 : Code := match c37_14 with
  | .seq x _ => x
  | _ => .skip
noncomputable def c37_19 : Code := match c37_14 with
  | .seq _ x => x
  | _ => .skip
theorem cd_c37_14 : c37_14 = .seq c37_18 c37_19 := by kernel_rfl
noncomputable def r37_18 : Array Oper := regAt [1, 1, 0, 1, 1, 1, 1, 0] body37
theorem cd_c37_18 : c37_18 = .region 4 r37_18 false := by kernel_rfl
noncomputable def c37_20 : Code := match c37_19 with
  | .seq x _ => x
  | _ => .skip
noncomputable def c37_21 : Code := match c37_19 with
  | .seq _ x => x
  | _ => .skip
theorem cd_c37_19 : c37_19 = .seq c37_20 c37_21 := by kernel_rfl
noncomputable def c37_22 : Code := match c37_20 with
  | .seq x _ => x
  | _ => .skip
noncomputable def c37_23 : Code := match c37_20 with
  | .seq _ x => x
  | _ => .skip
theorem cd_c37_20 : c37_20 = .seq c37_22 c37_23 := by kernel_rfl
noncomputable def r37_22 : Array Oper := regAt [1, 1, 0, 1, 1, 1, 1, 1, 0, 0] body37
theorem cd_c37_22 : c37_22 = .region 5 r37_22 true := by kernel_rfl
theorem cd_c37_23 : c37_23 = .cond (.tmp 49) .ret .skip := by kernel_rfl
noncomputable def c37_25 : Code := match c37_21 with
  | .seq x _ => x
  | _ => .skip
noncomputable def c37_26 : Code := match c37_21 with
  | .seq _ x => x
  | _ => .skip
theorem cd_c37_21 : c37_21 = .seq c37_25 c37_26 := by kernel_rfl
noncomputable def r37_25 : Array Oper := regAt [1, 1, 0, 1, 1, 1, 1, 1, 1, 0] body37
theorem cd_c37_25 : c37_25 = .region 6 r37_25 false := by kernel_rfl
noncomputable def c37_27 : Code := match c37_26 with
  | .seq x _ => x
  | _ => .skip
noncomputable def c37_28 : Code := match c37_26 with
  | .seq _ x => x
  | _ => .skip
theorem cd_c37_26 : c37_26 = .seq c37_27 c37_28 := by kernel_rfl
noncomputable def r37_27 : Array Oper := regAt [1, 1, 0, 1, 1, 1, 1, 1, 1, 1, 0] body37
theorem cd_c37_27 : c37_27 = .region 7 r37_27 false := by kernel_rfl
theorem cd_c37_28 : c37_28 = .cond (.tmp 59) .ret .skip := by kernel_rfl
noncomputable def body38 : Code := match Try.f38.body with
  | some c => c
  | none => .skip
noncomputable def c38_1 : Code := match code38 with
  | .seq x _ => x
  | _ => .skip
noncomputable def c38_2 : Code := match code38 with
  | .seq _ x => x
  | _ => .skip
theorem cd_code38 : code38 = .seq c38_1 c38_2 := by kernel_rfl
noncomputable def r38_1 : Array Oper := regAt [0] body38
theorem cd_c38_1 : c38_1 = .region 0 r38_1 false := by kernel_rfl
noncomputable def c38_3 : Code := match c38_2 with
  | .seq x _ => x
  | _ => .skip
noncomputable def c38_4 : Code := match c38_2 with
  | .seq _ x => x
  | _ => .skip
theorem cd_c38_2 : c38_2 = .seq c38_3 c38_4 := by kernel_rfl
noncomputable def r38_3 : Array Oper := regAt [1, 0] body38
theorem cd_c38_3 : c38_3 = .region 1 r38_3 false := by kernel_rfl
noncomputable def c38_5 : Code := match c38_4 with
  | .seq x _ => x
  | _ => .skip
noncomputable def c38_6 : Code := match c38_4 with
  | .seq _ x => x
  | _ => .skip
theorem cd_c38_4 : c38_4 = .seq c38_5 c38_6 := by kernel_rfl
noncomputable def c38_7 : Code := match c38_5 with
  | .seq x _ => x
  | _ => .skip
noncomputable def c38_8 : Code := match c38_5 with
  | .seq _ x => x
  | _ => .skip
theorem cd_c38_5 : c38_5 = .seq c38_7 c38_8 := by kernel_rfl
noncomputable def r38_7 : Array Oper := regAt [1, 1, 0, 0] body38
theorem cd_c38_7 : c38_7 = .region 2 r38_7 false := by kernel_rfl
noncomputable def c38_9 : Code := match c38_8 with
  | .block _ x => x
  | _ => .skip
theorem cd_c38_8 : c38_8 = .block 0 c38_9 := by kernel_rfl
noncomputable def c38_10 : Code := match c38_9 with
  | .loop x => x
  | _ => .skip
theorem cd_c38_9 : c38_9 = .loop c38_10 := by kernel_rfl
noncomputable def c38_11 : Code := match c38_10 with
  | .seq x _ => x
  | _ => .skip
noncomputable def c38_12 : Code := match c38_10 with
  | .seq _ x => x
  | _ => .skip
theorem cd_c38_10 : c38_10 = .seq c38_11 c38_12 := by kernel_rfl
noncomputable def r38_11 : Array Oper := regAt [1, 1, 0, 1, 1, 0, 0] body38
theorem cd_c38_11 : c38_11 = .region 3 r38_11 false := by kernel_rfl
noncomputable def c38_13 : Code := match c38_12 with
  | .seq x _ => x
  | _ => .skip
noncomputable def c38_14 : Code := match c38_12 with
  | .seq _ x => x
  | _ => .skip
theorem cd_c38_12 : c38_12 = .seq c38_13 c38_14 := by kernel_rfl
theorem cd_c38_13 : c38_13 = .cond (.tmp 6) .skip (.exit 0) := by kernel_rfl
noncomputable def c38_16 : Code := match c38_14 with
  | .seq x _ => x
  | _ => .skip
noncomputable def c38_17 : Code := match c38_14 with
  | .seq _ x => x
  | _ => .skip
theorem cd_c38_14 : c38_14 = .seq c38_16 c38_17 := by kernel_rfl
noncomputable def c38_18 : Code := match c38_16 with
  | .block _ x => x
  | _ => .skip
theorem cd_c38_16 : c38_16 = .block 1 c38_18 := by kernel_rfl
noncomputable def c38_19 : Code := match c38_18 with
  | .seq x _ => x
  | _ => .skip
noncomputable def c38_20 : Code := match c38_18 with
  | .seq _ x => x
  | _ => .skip
theorem cd_c38_18 : c38_18 = .seq c38_19 c38_20 := by kernel_rfl
noncomputable def r38_19 : Array Oper := regAt [1, 1, 0, 1, 1, 0, 1, 1, 0, 1, 0] body38
theorem cd_c38_19 : c38_19 = .region 4 r38_19 false := by kernel_rfl
noncomputable def r38_20 : Array Oper := regAt [1, 1, 0, 1, 1, 0, 1, 1, 0, 1, 1] body38
theorem cd_c38_20 : c38_20 = .region 5 r38_20 false := by kernel_rfl
noncomputable def r38_17 : Array Oper := regAt [1, 1, 0, 1, 1, 0, 1, 1, 1] body38
theorem cd_c38_17 : c38_17 = .region 6 r38_17 false := by kernel_rfl
noncomputable def c38_21 : Code := match c38_6 with
  | .seq x _ => x
  | _ => .skip
theorem cd_c38_6 : c38_6 = .seq c38_21 .ret := by kernel_rfl
noncomputable def r38_21 : Array Oper := regAt [1, 1, 1, 0] body38
theorem cd_c38_21 : c38_21 = .region 7 r38_21 false := by kernel_rfl
noncomputable def body39 : Code := match Try.f39.body with
  | some c => c
  | none => .skip
noncomputable def c39_1 : Code := match code39 with
  | .seq x _ => x
  | _ => .skip
noncomputable def c39_2 : Code := match code39 with
  | .seq _ x => x
  | _ => .skip
theorem cd_code39 : code39 = .seq c39_1 c39_2 := by kernel_rfl
noncomputable def r39_1 : Array Oper := regAt [0] body39
theorem cd_c39_1 : c39_1 = .region 0 r39_1 false := by kernel_rfl
noncomputable def c39_3 : Code := match c39_2 with
  | .seq x _ => x
  | _ => .skip
theorem cd_c39_2 : c39_2 = .seq c39_3 .ret := by kernel_rfl
noncomputable def r39_3 : Array Oper := regAt [1, 0] body39
theorem cd_c39_3 : c39_3 = .region 1 r39_3 true := by kernel_rfl
noncomputable def body40 : Code := match Try.f40.body with
  | some c => c
  | none => .skip
noncomputable def c40_1 : Code := match code40 with
  | .seq x _ => x
  | _ => .skip
noncomputable def c40_2 : Code := match code40 with
  | .seq _ x => x
  | _ => .skip
theorem cd_code40 : code40 = .seq c40_1 c40_2 := by kernel_rfl
noncomputable def r40_1 : Array Oper := regAt [0] body40
theorem cd_c40_1 : c40_1 = .region 0 r40_1 false := by kernel_rfl
noncomputable def c40_3 : Code := match c40_2 with
  | .seq x _ => x
  | _ => .skip
noncomputable def c40_4 : Code := match c40_2 with
  | .seq _ x => x
  | _ => .skip
theorem cd_c40_2 : c40_2 = .seq c40_3 c40_4 := by kernel_rfl
noncomputable def r40_3 : Array Oper := regAt [1, 0] body40
theorem cd_c40_3 : c40_3 = .region 1 r40_3 false := by kernel_rfl
noncomputable def c40_5 : Code := match c40_4 with
  | .seq x _ => x
  | _ => .skip
noncomputable def c40_6 : Code := match c40_4 with
  | .seq _ x => x
  | _ => .skip
theorem cd_c40_4 : c40_4 = .seq c40_5 c40_6 := by kernel_rfl
noncomputable def r40_5 : Array Oper := regAt [1, 1, 0] body40
theorem cd_c40_5 : c40_5 = .region 2 r40_5 false := by kernel_rfl
noncomputable def c40_7 : Code := match c40_6 with
  | .seq x _ => x
  | _ => .skip
noncomputable def c40_8 : Code := match c40_6 with
  | .seq _ x => x
  | _ => .skip
theorem cd_c40_6 : c40_6 = .seq c40_7 c40_8 := by kernel_rfl
noncomputable def c40_9 : Code := match c40_7 with
  | .seq x _ => x
  | _ => .skip
noncomputable def c40_10 : Code := match c40_7 with
  | .seq _ x => x
  | _ => .skip
theorem cd_c40_7 : c40_7 = .seq c40_9 c40_10 := by kernel_rfl
noncomputable def r40_9 : Array Oper := regAt [1, 1, 1, 0, 0] body40
theorem cd_c40_9 : c40_9 = .region 3 r40_9 false := by kernel_rfl
noncomputable def c40_11 : Code := match c40_10 with
  | .block _ x => x
  | _ => .skip
theorem cd_c40_10 : c40_10 = .block 0 c40_11 := by kernel_rfl
noncomputable def c40_12 : Code := match c40_11 with
  | .loop x => x
  | _ => .skip
theorem cd_c40_11 : c40_11 = .loop c40_12 := by kernel_rfl
noncomputable def c40_13 : Code := match c40_12 with
  | .seq x _ => x
  | _ => .skip
noncomputable def c40_14 : Code := match c40_12 with
  | .seq _ x => x
  | _ => .skip
theorem cd_c40_12 : c40_12 = .seq c40_13 c40_14 := by kernel_rfl
noncomputable def r40_13 : Array Oper := regAt [1, 1, 1, 0, 1, 1, 0, 0] body40
theorem cd_c40_13 : c40_13 = .region 4 r40_13 false := by kernel_rfl
noncomputable def c40_15 : Code := match c40_14 with
  | .seq x _ => x
  | _ => .skip
noncomputable def c40_16 : Code := match c40_14 with
  | .seq _ x => x
  | _ => .skip
theorem cd_c40_14 : c40_14 = .seq c40_15 c40_16 := by kernel_rfl
theorem cd_c40_15 : c40_15 = .cond (.tmp 15) .skip (.exit 0) := by kernel_rfl
noncomputable def c40_18 : Code := match c40_16 with
  | .seq x _ => x
  | _ => .skip
noncomputable def c40_19 : Code := match c40_16 with
  | .seq _ x => x
  | _ => .skip
theorem cd_c40_16 : c40_16 = .seq c40_18 c40_19 := by kernel_rfl
noncomputable def c40_20 : Code := match c40_18 with
  | .block _ x => x
  | _ => .skip
theorem cd_c40_18 : c40_18 = .block 1 c40_20 := by kernel_rfl
noncomputable def c40_21 : Code := match c40_20 with
  | .seq x _ => x
  | _ => .skip
noncomputable def c40_22 : Code := match c40_20 with
  | .seq _ x => x
  | _ => .skip
theorem cd_c40_20 : c40_20 = .seq c40_21 c40_22 := by kernel_rfl
noncomputable def r40_21 : Array Oper := regAt [1, 1, 1, 0, 1, 1, 0, 1, 1, 0, 1, 0] body40
theorem cd_c40_21 : c40_21 = .region 5 r40_21 false := by kernel_rfl
noncomputable def r40_22 : Array Oper := regAt [1, 1, 1, 0, 1, 1, 0, 1, 1, 0, 1, 1] body40
theorem cd_c40_22 : c40_22 = .region 6 r40_22 false := by kernel_rfl
noncomputable def r40_19 : Array Oper := regAt [1, 1, 1, 0, 1, 1, 0, 1, 1, 1] body40
theorem cd_c40_19 : c40_19 = .region 7 r40_19 false := by kernel_rfl
noncomputable def c40_23 : Code := match c40_8 with
  | .seq x _ => x
  | _ => .skip
theorem cd_c40_8 : c40_8 = .seq c40_23 .ret := by kernel_rfl
noncomputable def r40_23 : Array Oper := regAt [1, 1, 1, 1, 0] body40
theorem cd_c40_23 : c40_23 = .region 8 r40_23 false := by kernel_rfl
noncomputable def body41 : Code := match Try.f41.body with
  | some c => c
  | none => .skip
noncomputable def c41_1 : Code := match code41 with
  | .seq x _ => x
  | _ => .skip
noncomputable def c41_2 : Code := match code41 with
  | .seq _ x => x
  | _ => .skip
theorem cd_code41 : code41 = .seq c41_1 c41_2 := by kernel_rfl
noncomputable def r41_1 : Array Oper := regAt [0] body41
theorem cd_c41_1 : c41_1 = .region 0 r41_1 false := by kernel_rfl
noncomputable def c41_3 : Code := match c41_2 with
  | .seq x _ => x
  | _ => .skip
noncomputable def c41_4 : Code := match c41_2 with
  | .seq _ x => x
  | _ => .skip
theorem cd_c41_2 : c41_2 = .seq c41_3 c41_4 := by kernel_rfl
noncomputable def r41_3 : Array Oper := regAt [1, 0] body41
theorem cd_c41_3 : c41_3 = .region 1 r41_3 false := by kernel_rfl
noncomputable def c41_5 : Code := match c41_4 with
  | .seq x _ => x
  | _ => .skip
noncomputable def c41_6 : Code := match c41_4 with
  | .seq _ x => x
  | _ => .skip
theorem cd_c41_4 : c41_4 = .seq c41_5 c41_6 := by kernel_rfl
noncomputable def c41_7 : Code := match c41_5 with
  | .seq x _ => x
  | _ => .skip
noncomputable def c41_8 : Code := match c41_5 with
  | .seq _ x => x
  | _ => .skip
theorem cd_c41_5 : c41_5 = .seq c41_7 c41_8 := by kernel_rfl
noncomputable def r41_7 : Array Oper := regAt [1, 1, 0, 0] body41
theorem cd_c41_7 : c41_7 = .region 2 r41_7 false := by kernel_rfl
noncomputable def c41_9 : Code := match c41_8 with
  | .block _ x => x
  | _ => .skip
theorem cd_c41_8 : c41_8 = .block 0 c41_9 := by kernel_rfl
noncomputable def c41_10 : Code := match c41_9 with
  | .loop x => x
  | _ => .skip
theorem cd_c41_9 : c41_9 = .loop c41_10 := by kernel_rfl
noncomputable def c41_11 : Code := match c41_10 with
  | .seq x _ => x
  | _ => .skip
noncomputable def c41_12 : Code := match c41_10 with
  | .seq _ x => x
  | _ => .skip
theorem cd_c41_10 : c41_10 = .seq c41_11 c41_12 := by kernel_rfl
noncomputable def c41_13 : Code := match c41_11 with
  | .seq x _ => x
  | _ => .skip
noncomputable def c41_14 : Code := match c41_11 with
  | .seq _ x => x
  | _ => .skip
theorem cd_c41_11 : c41_11 = .seq c41_13 c41_14 := by kernel_rfl
noncomputable def r41_13 : Array Oper := regAt [1, 1, 0, 1, 1, 0, 0, 0] body41
theorem cd_c41_13 : c41_13 = .region 3 r41_13 false := by kernel_rfl
theorem cd_c41_14 : c41_14 = .cond (.tmp 12) .skip (.exit 0) := by kernel_rfl
noncomputable def c41_16 : Code := match c41_12 with
  | .seq x _ => x
  | _ => .skip
noncomputable def c41_17 : Code := match c41_12 with
  | .seq _ x => x
  | _ => .skip
theorem cd_c41_12 : c41_12 = .seq c41_16 c41_17 := by kernel_rfl
noncomputable def c41_18 : Code := match c41_16 with
  | .block _ x => x
  | _ => .skip
theorem cd_c41_16 : c41_16 = .block 1 c41_18 := by kernel_rfl
noncomputable def r41_18 : Array Oper := regAt [1, 1, 0, 1, 1, 0, 1, 0, 1] body41
theorem cd_c41_18 : c41_18 = .region 5 r41_18 false := by kernel_rfl
noncomputable def r41_17 : Array Oper := regAt [1, 1, 0, 1, 1, 0, 1, 1] body41
theorem cd_c41_17 : c41_17 = .region 4 r41_17 false := by kernel_rfl
noncomputable def c41_19 : Code := match c41_6 with
  | .seq x _ => x
  | _ => .skip
theorem cd_c41_6 : c41_6 = .seq c41_19 .ret := by kernel_rfl
noncomputable def r41_19 : Array Oper := regAt [1, 1, 1, 0] body41
theorem cd_c41_19 : c41_19 = .region 6 r41_19 false := by kernel_rfl
noncomputable def body42 : Code := match Try.f42.body with
  | some c => c
  | none => .skip
noncomputable def c42_1 : Code := match code42 with
  | .seq x _ => x
  | _ => .skip
noncomputable def c42_2 : Code := match code42 with
  | .seq _ x => x
  | _ => .skip
theorem cd_code42 : code42 = .seq c42_1 c42_2 := by kernel_rfl
noncomputable def r42_1 : Array Oper := regAt [0] body42
theorem cd_c42_1 : c42_1 = .region 0 r42_1 false := by kernel_rfl
noncomputable def c42_3 : Code := match c42_2 with
  | .seq x _ => x
  | _ => .skip
noncomputable def c42_4 : Code := match c42_2 with
  | .seq _ x => x
  | _ => .skip
theorem cd_c42_2 : c42_2 = .seq c42_3 c42_4 := by kernel_rfl
noncomputable def r42_3 : Array Oper := regAt [1, 0] body42
theorem cd_c42_3 : c42_3 = .region 1 r42_3 false := by kernel_rfl
noncomputable def c42_5 : Code := match c42_4 with
  | .seq x _ => x
  | _ => .skip
noncomputable def c42_6 : Code := match c42_4 with
  | .seq _ x => x
  | _ => .skip
theorem cd_c42_4 : c42_4 = .seq c42_5 c42_6 := by kernel_rfl
noncomputable def c42_7 : Code := match c42_5 with
  | .seq x _ => x
  | _ => .skip
noncomputable def c42_8 : Code := match c42_5 with
  | .seq _ x => x
  | _ => .skip
theorem cd_c42_5 : c42_5 = .seq c42_7 c42_8 := by kernel_rfl
noncomputable def r42_7 : Array Oper := regAt [1, 1, 0, 0] body42
theorem cd_c42_7 : c42_7 = .region 2 r42_7 false := by kernel_rfl
noncomputable def c42_9 : Code := match c42_8 with
  | .block _ x => x
  | _ => .skip
theorem cd_c42_8 : c42_8 = .block 0 c42_9 := by kernel_rfl
noncomputable def c42_10 : Code := match c42_9 with
  | .loop x => x
  | _ => .skip
theorem cd_c42_9 : c42_9 = .loop c42_10 := by kernel_rfl
noncomputable def c42_11 : Code := match c42_10 with
  | .seq x _ => x
  | _ => .skip
noncomputable def c42_12 : Code := match c42_10 with
  | .seq _ x => x
  | _ => .skip
theorem cd_c42_10 : c42_10 = .seq c42_11 c42_12 := by kernel_rfl
noncomputable def r42_11 : Array Oper := regAt [1, 1, 0, 1, 1, 0, 0] body42
theorem cd_c42_11 : c42_11 = .region 3 r42_11 false := by kernel_rfl
noncomputable def c42_13 : Code := match c42_12 with
  | .seq x _ => x
  | _ => .skip
noncomputable def c42_14 : Code := match c42_12 with
  | .seq _ x => x
  | _ => .skip
theorem cd_c42_12 : c42_12 = .seq c42_13 c42_14 := by kernel_rfl
theorem cd_c42_13 : c42_13 = .cond (.tmp 4) .skip (.exit 0) := by kernel_rfl
noncomputable def c42_16 : Code := match c42_14 with
  | .seq x _ => x
  | _ => .skip
noncomputable def c42_17 : Code := match c42_14 with
  | .seq _ x => x
  | _ => .skip
theorem cd_c42_14 : c42_14 = .seq c42_16 c42_17 := by kernel_rfl
noncomputable def c42_18 : Code := match c42_16 with
  | .block _ x => x
  | _ => .skip
theorem cd_c42_16 : c42_16 = .block 1 c42_18 := by kernel_rfl
noncomputable def c42_19 : Code := match c42_18 with
  | .seq x _ => x
  | _ => .skip
noncomputable def c42_20 : Code := match c42_18 with
  | .seq _ x => x
  | _ => .skip
theorem cd_c42_18 : c42_18 = .seq c42_19 c42_20 := by kernel_rfl
noncomputable def r42_19 : Array Oper := regAt [1, 1, 0, 1, 1, 0, 1, 1, 0, 1, 0] body42
theorem cd_c42_19 : c42_19 = .region 4 r42_19 false := by kernel_rfl
noncomputable def r42_20 : Array Oper := regAt [1, 1, 0, 1, 1, 0, 1, 1, 0, 1, 1] body42
theorem cd_c42_20 : c42_20 = .region 5 r42_20 false := by kernel_rfl
noncomputable def r42_17 : Array Oper := regAt [1, 1, 0, 1, 1, 0, 1, 1, 1] body42
theorem cd_c42_17 : c42_17 = .region 6 r42_17 false := by kernel_rfl
noncomputable def c42_21 : Code := match c42_6 with
  | .seq x _ => x
  | _ => .skip
theorem cd_c42_6 : c42_6 = .seq c42_21 .ret := by kernel_rfl
noncomputable def r42_21 : Array Oper := regAt [1, 1, 1, 0] body42
theorem cd_c42_21 : c42_21 = .region 7 r42_21 false := by kernel_rfl
noncomputable def body43 : Code := match Try.f43.body with
  | some c => c
  | none => .skip
noncomputable def c43_1 : Code := match code43 with
  | .seq x _ => x
  | _ => .skip
noncomputable def c43_2 : Code := match code43 with
  | .seq _ x => x
  | _ => .skip
theorem cd_code43 : code43 = .seq c43_1 c43_2 := by kernel_rfl
noncomputable def r43_1 : Array Oper := regAt [0] body43
theorem cd_c43_1 : c43_1 = .region 0 r43_1 false := by kernel_rfl
noncomputable def c43_3 : Code := match c43_2 with
  | .seq x _ => x
  | _ => .skip
noncomputable def c43_4 : Code := match c43_2 with
  | .seq _ x => x
  | _ => .skip
theorem cd_c43_2 : c43_2 = .seq c43_3 c43_4 := by kernel_rfl
noncomputable def c43_5 : Code := match c43_3 with
  | .block _ x => x
  | _ => .skip
theorem cd_c43_3 : c43_3 = .block 0 c43_5 := by kernel_rfl
noncomputable def c43_6 : Code := match c43_5 with
  | .loop x => x
  | _ => .skip
theorem cd_c43_5 : c43_5 = .loop c43_6 := by kernel_rfl
noncomputable def c43_7 : Code := match c43_6 with
  | .seq x _ => x
  | _ => .skip
noncomputable def c43_8 : Code := match c43_6 with
  | .seq _ x => x
  | _ => .skip
theorem cd_c43_6 : c43_6 = .seq c43_7 c43_8 := by kernel_rfl
noncomputable def c43_9 : Code := match c43_7 with
  | .seq x _ => x
  | _ => .skip
noncomputable def c43_10 : Code := match c43_7 with
  | .seq _ x => x
  | _ => .skip
theorem cd_c43_7 : c43_7 = .seq c43_9 c43_10 := by kernel_rfl
noncomputable def r43_9 : Array Oper := regAt [1, 0, 1, 0, 0, 0] body43
theorem cd_c43_9 : c43_9 = .region 1 r43_9 false := by kernel_rfl
theorem cd_c43_10 : c43_10 = .cond (.tmp 6) .skip (.exit 0) := by kernel_rfl
noncomputable def c43_12 : Code := match c43_8 with
  | .seq x _ => x
  | _ => .skip
noncomputable def c43_13 : Code := match c43_8 with
  | .seq _ x => x
  | _ => .skip
theorem cd_c43_8 : c43_8 = .seq c43_12 c43_13 := by kernel_rfl
noncomputable def c43_14 : Code := match c43_12 with
  | .block _ x => x
  | _ => .skip
theorem cd_c43_12 : c43_12 = .block 1 c43_14 := by kernel_rfl
noncomputable def c43_15 : Code := match c43_14 with
  | .seq x _ => x
  | _ => .skip
noncomputable def c43_16 : Code := match c43_14 with
  | .seq _ x => x
  | _ => .skip
theorem cd_c43_14 : c43_14 = .seq c43_15 c43_16 := by kernel_rfl
noncomputable def r43_15 : Array Oper := regAt [1, 0, 1, 0, 1, 0, 1, 0] body43
theorem cd_c43_15 : c43_15 = .region 3 r43_15 false := by kernel_rfl
noncomputable def c43_17 : Code := match c43_16 with
  | .cond _ x _ => x
  | _ => .skip
noncomputable def c43_18 : Code := match c43_16 with
  | .cond _ _ x => x
  | _ => .skip
theorem cd_c43_16 : c43_16 = .cond (.tmp 11) c43_17 c43_18 := by kernel_rfl
noncomputable def r43_17 : Array Oper := regAt [1, 0, 1, 0, 1, 0, 1, 1, 1] body43
theorem cd_c43_17 : c43_17 = .region 4 r43_17 false := by kernel_rfl
noncomputable def r43_18 : Array Oper := regAt [1, 0, 1, 0, 1, 0, 1, 1, 2] body43
theorem cd_c43_18 : c43_18 = .region 5 r43_18 false := by kernel_rfl
noncomputable def r43_13 : Array Oper := regAt [1, 0, 1, 0, 1, 1] body43
theorem cd_c43_13 : c43_13 = .region 2 r43_13 false := by kernel_rfl
noncomputable def c43_20 : Code := match c43_4 with
  | .seq x _ => x
  | _ => .skip
theorem cd_c43_4 : c43_4 = .seq c43_20 .ret := by kernel_rfl
noncomputable def r43_20 : Array Oper := regAt [1, 1, 0] body43
theorem cd_c43_20 : c43_20 = .region 6 r43_20 false := by kernel_rfl
noncomputable def body44 : Code := match Try.f44.body with
  | some c => c
  | none => .skip
noncomputable def c44_1 : Code := match code44 with
  | .seq x _ => x
  | _ => .skip
noncomputable def c44_2 : Code := match code44 with
  | .seq _ x => x
  | _ => .skip
theorem cd_code44 : code44 = .seq c44_1 c44_2 := by kernel_rfl
noncomputable def r44_1 : Array Oper := regAt [0] body44
theorem cd_c44_1 : c44_1 = .region 0 r44_1 false := by kernel_rfl
noncomputable def c44_3 : Code := match c44_2 with
  | .seq x _ => x
  | _ => .skip
noncomputable def c44_4 : Code := match c44_2 with
  | .seq _ x => x
  | _ => .skip
theorem cd_c44_2 : c44_2 = .seq c44_3 c44_4 := by kernel_rfl
noncomputable def c44_5 : Code := match c44_3 with
  | .seq x _ => x
  | _ => .skip
noncomputable def c44_6 : Code := match c44_3 with
  | .seq _ x => x
  | _ => .skip
theorem cd_c44_3 : c44_3 = .seq c44_5 c44_6 := by kernel_rfl
noncomputable def r44_5 : Array Oper := regAt [1, 0, 0] body44
theorem cd_c44_5 : c44_5 = .region 1 r44_5 false := by kernel_rfl
noncomputable def c44_7 : Code := match c44_6 with
  | .block _ x => x
  | _ => .skip
theorem cd_c44_6 : c44_6 = .block 0 c44_7 := by kernel_rfl
noncomputable def c44_8 : Code := match c44_7 with
  | .loop x => x
  | _ => .skip
theorem cd_c44_7 : c44_7 = .loop c44_8 := by kernel_rfl
noncomputable def c44_9 : Code := match c44_8 with
  | .seq x _ => x
  | _ => .skip
noncomputable def c44_10 : Code := match c44_8 with
  | .seq _ x => x
  | _ => .skip
theorem cd_c44_8 : c44_8 = .seq c44_9 c44_10 := by kernel_rfl
noncomputable def r44_9 : Array Oper := regAt [1, 0, 1, 1, 0, 0] body44
theorem cd_c44_9 : c44_9 = .region 2 r44_9 false := by kernel_rfl
noncomputable def c44_11 : Code := match c44_10 with
  | .seq x _ => x
  | _ => .skip
noncomputable def c44_12 : Code := match c44_10 with
  | .seq _ x => x
  | _ => .skip
theorem cd_c44_10 : c44_10 = .seq c44_11 c44_12 := by kernel_rfl
theorem cd_c44_11 : c44_11 = .cond (.tmp 8) .skip (.exit 0) := by kernel_rfl
noncomputable def c44_14 : Code := match c44_12 with
  | .seq x _ => x
  | _ => .skip
noncomputable def c44_15 : Code := match c44_12 with
  | .seq _ x => x
  | _ => .skip
theorem cd_c44_12 : c44_12 = .seq c44_14 c44_15 := by kernel_rfl
noncomputable def c44_16 : Code := match c44_14 with
  | .block _ x => x
  | _ => .skip
theorem cd_c44_14 : c44_14 = .block 1 c44_16 := by kernel_rfl
noncomputable def c44_17 : Code := match c44_16 with
  | .seq x _ => x
  | _ => .skip
noncomputable def c44_18 : Code := match c44_16 with
  | .seq _ x => x
  | _ => .skip
theorem cd_c44_16 : c44_16 = .seq c44_17 c44_18 := by kernel_rfl
noncomputable def r44_17 : Array Oper := regAt [1, 0, 1, 1, 0, 1, 1, 0, 1, 0] body44
theorem cd_c44_17 : c44_17 = .region 3 r44_17 false := by kernel_rfl
noncomputable def c44_19 : Code := match c44_18 with
  | .seq x _ => x
  | _ => .skip
noncomputable def c44_20 : Code := match c44_18 with
  | .seq _ x => x
  | _ => .skip
theorem cd_c44_18 : c44_18 = .seq c44_19 c44_20 := by kernel_rfl
noncomputable def r44_19 : Array Oper := regAt [1, 0, 1, 1, 0, 1, 1, 0, 1, 1, 0] body44
theorem cd_c44_19 : c44_19 = .region 4 r44_19 false := by kernel_rfl
noncomputable def c44_21 : Code := match c44_20 with
  | .seq x _ => x
  | _ => .skip
noncomputable def c44_22 : Code := match c44_20 with
  | .seq _ x => x
  | _ => .skip
theorem cd_c44_20 : c44_20 = .seq c44_21 c44_22 := by kernel_rfl
noncomputable def r44_21 : Array Oper := regAt [1, 0, 1, 1, 0, 1, 1, 0, 1, 1, 1, 0] body44
theorem cd_c44_21 : c44_21 = .region 5 r44_21 false := by kernel_rfl
noncomputable def c44_23 : Code := match c44_22 with
  | .cond _ x _ => x
  | _ => .skip
theorem cd_c44_22 : c44_22 = .cond (.tmp 14) c44_23 .skip := by kernel_rfl
noncomputable def r44_23 : Array Oper := regAt [1, 0, 1, 1, 0, 1, 1, 0, 1, 1, 1, 1, 1] body44
theorem cd_c44_23 : c44_23 = .region 6 r44_23 false := by kernel_rfl
noncomputable def r44_15 : Array Oper := regAt [1, 0, 1, 1, 0, 1, 1, 1] body44
theorem cd_c44_15 : c44_15 = .region 7 r44_15 false := by kernel_rfl
noncomputable def c44_25 : Code := match c44_4 with
  | .seq x _ => x
  | _ => .skip
theorem cd_c44_4 : c44_4 = .seq c44_25 .ret := by kernel_rfl
noncomputable def r44_25 : Array Oper := regAt [1, 1, 0] body44
theorem cd_c44_25 : c44_25 = .region 8 r44_25 false := by kernel_rfl
end Go.Proofs.Ytdoeopcimhpjaaa
