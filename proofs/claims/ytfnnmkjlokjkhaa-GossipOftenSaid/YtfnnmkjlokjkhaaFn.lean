/-
  The functions of this seat: facts for the symbolic machine, by our program fns.py.
-/
import Derived.Test.YtfnnmkjlokjkhaaProg
import Derived.Test.YtfnnmkjlokjkhaaSc
import Derived.KernelRfl
open Go Go.SY
namespace Go.Proofs.Ytfnnmkjlokjkhaa
noncomputable def code2 : Code := match Try.f2.body with
  | some c => c
  | none => .skip
theorem fi2 : fi Try.prog 2 = some ⟨1, [], code2⟩ := by kernel_rfl
noncomputable def code3 : Code := match Try.f3.body with
  | some c => c
  | none => .skip
theorem fi3 : fi Try.prog 3 = some ⟨128, [.tmp 4], code3⟩ := by kernel_rfl
noncomputable def code4 : Code := match Try.f4.body with
  | some c => c
  | none => .skip
theorem fi4 : fi Try.prog 4 = some ⟨59, [.tmp 4], code4⟩ := by kernel_rfl
noncomputable def code5 : Code := match Try.f5.body with
  | some c => c
  | none => .skip
theorem fi5 : fi Try.prog 5 = some ⟨55, [.tmp 0], code5⟩ := by kernel_rfl
noncomputable def code6 : Code := match Try.f6.body with
  | some c => c
  | none => .skip
theorem fi6 : fi Try.prog 6 = some ⟨203, [.tmp 6], code6⟩ := by kernel_rfl
noncomputable def code7 : Code := match Try.f7.body with
  | some c => c
  | none => .skip
theorem fi7 : fi Try.prog 7 = some ⟨77, [.tmp 2], code7⟩ := by kernel_rfl
noncomputable def code8 : Code := match Try.f8.body with
  | some c => c
  | none => .skip
theorem fi8 : fi Try.prog 8 = some ⟨16, [.tmp 2, .tmp 3], code8⟩ := by kernel_rfl
noncomputable def code9 : Code := match Try.f9.body with
  | some c => c
  | none => .skip
theorem fi9 : fi Try.prog 9 = some ⟨13, [.tmp 2, .tmp 3], code9⟩ := by kernel_rfl
noncomputable def code10 : Code := match Try.f10.body with
  | some c => c
  | none => .skip
theorem fi10 : fi Try.prog 10 = some ⟨12, [.tmp 0], code10⟩ := by kernel_rfl
noncomputable def code11 : Code := match Try.f11.body with
  | some c => c
  | none => .skip
theorem fi11 : fi Try.prog 11 = some ⟨69, [.tmp 4], code11⟩ := by kernel_rfl
noncomputable def code12 : Code := match Try.f12.body with
  | some c => c
  | none => .skip
theorem fi12 : fi Try.prog 12 = some ⟨54, [.tmp 4], code12⟩ := by kernel_rfl
noncomputable def code13 : Code := match Try.f13.body with
  | some c => c
  | none => .skip
theorem fi13 : fi Try.prog 13 = some ⟨31, [.tmp 4], code13⟩ := by kernel_rfl
noncomputable def code14 : Code := match Try.f14.body with
  | some c => c
  | none => .skip
theorem fi14 : fi Try.prog 14 = some ⟨60, [.tmp 4, .tmp 5], code14⟩ := by kernel_rfl
noncomputable def code15 : Code := match Try.f15.body with
  | some c => c
  | none => .skip
theorem fi15 : fi Try.prog 15 = some ⟨71, [.tmp 4, .tmp 5], code15⟩ := by kernel_rfl
noncomputable def code16 : Code := match Try.f16.body with
  | some c => c
  | none => .skip
theorem fi16 : fi Try.prog 16 = some ⟨11, [.tmp 2], code16⟩ := by kernel_rfl
noncomputable def code17 : Code := match Try.f17.body with
  | some c => c
  | none => .skip
theorem fi17 : fi Try.prog 17 = some ⟨8, [.tmp 2], code17⟩ := by kernel_rfl
noncomputable def code18 : Code := match Try.f18.body with
  | some c => c
  | none => .skip
theorem fi18 : fi Try.prog 18 = some ⟨12, [.tmp 2], code18⟩ := by kernel_rfl
noncomputable def code19 : Code := match Try.f19.body with
  | some c => c
  | none => .skip
theorem fi19 : fi Try.prog 19 = some ⟨16, [.tmp 2], code19⟩ := by kernel_rfl
noncomputable def code20 : Code := match Try.f20.body with
  | some c => c
  | none => .skip
theorem fi20 : fi Try.prog 20 = some ⟨48, [.tmp 0], code20⟩ := by kernel_rfl
noncomputable def code21 : Code := match Try.f21.body with
  | some c => c
  | none => .skip
theorem fi21 : fi Try.prog 21 = some ⟨11, [.cell 6 32], code21⟩ := by kernel_rfl
noncomputable def code22 : Code := match Try.f22.body with
  | some c => c
  | none => .skip
theorem fi22 : fi Try.prog 22 = some ⟨16, [.tmp 4], code22⟩ := by kernel_rfl
noncomputable def code23 : Code := match Try.f23.body with
  | some c => c
  | none => .skip
theorem fi23 : fi Try.prog 23 = some ⟨22, [.tmp 6], code23⟩ := by kernel_rfl
noncomputable def code24 : Code := match Try.f24.body with
  | some c => c
  | none => .skip
theorem fi24 : fi Try.prog 24 = some ⟨38, [.tmp 4], code24⟩ := by kernel_rfl
noncomputable def code25 : Code := match Try.f25.body with
  | some c => c
  | none => .skip
theorem fi25 : fi Try.prog 25 = some ⟨32, [.tmp 2], code25⟩ := by kernel_rfl
noncomputable def code26 : Code := match Try.f26.body with
  | some c => c
  | none => .skip
theorem fi26 : fi Try.prog 26 = some ⟨14, [.tmp 4], code26⟩ := by kernel_rfl
noncomputable def code27 : Code := match Try.f27.body with
  | some c => c
  | none => .skip
theorem fi27 : fi Try.prog 27 = some ⟨26, [.tmp 4], code27⟩ := by kernel_rfl
noncomputable def code28 : Code := match Try.f28.body with
  | some c => c
  | none => .skip
theorem fi28 : fi Try.prog 28 = some ⟨12, [.tmp 2], code28⟩ := by kernel_rfl
noncomputable def code29 : Code := match Try.f29.body with
  | some c => c
  | none => .skip
theorem fi29 : fi Try.prog 29 = some ⟨8, [.tmp 2], code29⟩ := by kernel_rfl
noncomputable def code30 : Code := match Try.f30.body with
  | some c => c
  | none => .skip
theorem fi30 : fi Try.prog 30 = some ⟨33, [.tmp 6], code30⟩ := by kernel_rfl
noncomputable def code31 : Code := match Try.f31.body with
  | some c => c
  | none => .skip
theorem fi31 : fi Try.prog 31 = some ⟨29, [], code31⟩ := by kernel_rfl
noncomputable def code32 : Code := match Try.f32.body with
  | some c => c
  | none => .skip
theorem fi32 : fi Try.prog 32 = some ⟨99, [.tmp 4], code32⟩ := by kernel_rfl
noncomputable def code33 : Code := match Try.f33.body with
  | some c => c
  | none => .skip
theorem fi33 : fi Try.prog 33 = some ⟨42, [], code33⟩ := by kernel_rfl
noncomputable def code34 : Code := match Try.f34.body with
  | some c => c
  | none => .skip
theorem fi34 : fi Try.prog 34 = some ⟨19, [.tmp 4], code34⟩ := by kernel_rfl
noncomputable def code35 : Code := match Try.f35.body with
  | some c => c
  | none => .skip
theorem fi35 : fi Try.prog 35 = some ⟨10, [.tmp 3], code35⟩ := by kernel_rfl
noncomputable def code36 : Code := match Try.f36.body with
  | some c => c
  | none => .skip
theorem fi36 : fi Try.prog 36 = some ⟨31, [.tmp 2], code36⟩ := by kernel_rfl
noncomputable def code37 : Code := match Try.f37.body with
  | some c => c
  | none => .skip
theorem fi37 : fi Try.prog 37 = some ⟨29, [.tmp 4], code37⟩ := by kernel_rfl
noncomputable def code38 : Code := match Try.f38.body with
  | some c => c
  | none => .skip
theorem fi38 : fi Try.prog 38 = some ⟨8, [.tmp 2], code38⟩ := by kernel_rfl
noncomputable def code39 : Code := match Try.f39.body with
  | some c => c
  | none => .skip
theorem fi39 : fi Try.prog 39 = some ⟨20, [.tmp 4], code39⟩ := by kernel_rfl
noncomputable def code40 : Code := match Try.f40.body with
  | some c => c
  | none => .skip
theorem fi40 : fi Try.prog 40 = some ⟨17, [.tmp 4], code40⟩ := by kernel_rfl
noncomputable def code41 : Code := match Try.f41.body with
  | some c => c
  | none => .skip
theorem fi41 : fi Try.prog 41 = some ⟨12, [.tmp 4], code41⟩ := by kernel_rfl
noncomputable def code42 : Code := match Try.f42.body with
  | some c => c
  | none => .skip
theorem fi42 : fi Try.prog 42 = some ⟨95, [.tmp 6], code42⟩ := by kernel_rfl
noncomputable def code43 : Code := match Try.f43.body with
  | some c => c
  | none => .skip
theorem fi43 : fi Try.prog 43 = some ⟨20, [.tmp 4], code43⟩ := by kernel_rfl
noncomputable def code44 : Code := match Try.f44.body with
  | some c => c
  | none => .skip
theorem fi44 : fi Try.prog 44 = some ⟨19, [.tmp 2], code44⟩ := by kernel_rfl
noncomputable def code45 : Code := match Try.f45.body with
  | some c => c
  | none => .skip
theorem fi45 : fi Try.prog 45 = some ⟨25, [.tmp 2], code45⟩ := by kernel_rfl
noncomputable def code46 : Code := match Try.f46.body with
  | some c => c
  | none => .skip
theorem fi46 : fi Try.prog 46 = some ⟨18, [.tmp 2], code46⟩ := by kernel_rfl
noncomputable def code47 : Code := match Try.f47.body with
  | some c => c
  | none => .skip
theorem fi47 : fi Try.prog 47 = some ⟨20, [.tmp 4], code47⟩ := by kernel_rfl
noncomputable def code49 : Code := match Try.f49.body with
  | some c => c
  | none => .skip
theorem fi49 : fi Try.prog 49 = some ⟨10, [], code49⟩ := by kernel_rfl
noncomputable def code50 : Code := match Try.f50.body with
  | some c => c
  | none => .skip
theorem fi50 : fi Try.prog 50 = some ⟨6, [.tmp 2], code50⟩ := by kernel_rfl
noncomputable def code51 : Code := match Try.f51.body with
  | some c => c
  | none => .skip
theorem fi51 : fi Try.prog 51 = some ⟨14, [], code51⟩ := by kernel_rfl
noncomputable def code52 : Code := match Try.f52.body with
  | some c => c
  | none => .skip
theorem fi52 : fi Try.prog 52 = some ⟨28, [], code52⟩ := by kernel_rfl
end Go.Proofs.Ytfnnmkjlokjkhaa
