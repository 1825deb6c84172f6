/-
  The functions of this seat: facts for the symbolic machine, by our program fns.py.
-/
import Derived.Test.YtdoeopcimhpjaaaProg
import Derived.Test.YtdoeopcimhpjaaaSc
import Derived.KernelRfl
open Go Go.SY
namespace Go.Proofs.Ytdoeopcimhpjaaa
-- name 0 main.main
-- name 1 gosem.cut
-- name 2 gosem.cut.init
noncomputable def code2 : Code := match Try.f2.body with
  | some c => c
  | none => .skip
theorem fi2 : fi Try.prog 2 = some ⟨1, [], code2⟩ := by kernel_rfl
-- name 3 chartulary/chartularylaw04.FrameSplits
noncomputable def code3 : Code := match Try.f3.body with
  | some c => c
  | none => .skip
theorem fi3 : fi Try.prog 3 = some ⟨54, [.tmp 2], code3⟩ := by kernel_rfl
-- name 4 chartulary/chartularylaw04.FrameKnown
noncomputable def code4 : Code := match Try.f4.body with
  | some c => c
  | none => .skip
theorem fi4 : fi Try.prog 4 = some ⟨46, [.tmp 0], code4⟩ := by kernel_rfl
-- name 5 chartulary/chartularylaw04.FramePuts
noncomputable def code5 : Code := match Try.f5.body with
  | some c => c
  | none => .skip
theorem fi5 : fi Try.prog 5 = some ⟨92, [.tmp 4], code5⟩ := by kernel_rfl
-- name 6 chartulary/chartularylaw04.FrameBack
noncomputable def code6 : Code := match Try.f6.body with
  | some c => c
  | none => .skip
theorem fi6 : fi Try.prog 6 = some ⟨63, [.tmp 2], code6⟩ := by kernel_rfl
-- name 7 chartulary/chartularylaw04.FrameTorn
noncomputable def code7 : Code := match Try.f7.body with
  | some c => c
  | none => .skip
theorem fi7 : fi Try.prog 7 = some ⟨116, [.tmp 6], code7⟩ := by kernel_rfl
-- name 8 chartulary/chartularylaw04.FrameSpoilt
noncomputable def code8 : Code := match Try.f8.body with
  | some c => c
  | none => .skip
theorem fi8 : fi Try.prog 8 = some ⟨98, [.tmp 8], code8⟩ := by kernel_rfl
-- name 9 chartulary/chartularylaw04.awake
noncomputable def code9 : Code := match Try.f9.body with
  | some c => c
  | none => .skip
theorem fi9 : fi Try.prog 9 = some ⟨27, [.tmp 0], code9⟩ := by kernel_rfl
-- name 10 chartulary/chartularykit.LentBytes
noncomputable def code10 : Code := match Try.f10.body with
  | some c => c
  | none => .skip
theorem fi10 : fi Try.prog 10 = some ⟨19, [.tmp 2], code10⟩ := by kernel_rfl
-- name 11 chartulary/frame.Split
noncomputable def code11 : Code := match Try.f11.body with
  | some c => c
  | none => .skip
theorem fi11 : fi Try.prog 11 = some ⟨23, [.tmp 2, .tmp 3], code11⟩ := by kernel_rfl
-- name 12 chartulary/chartularyref04.Split
noncomputable def code12 : Code := match Try.f12.body with
  | some c => c
  | none => .skip
theorem fi12 : fi Try.prog 12 = some ⟨27, [.tmp 2, .tmp 3], code12⟩ := by kernel_rfl
-- name 13 chartulary/chartularylaw04.same
noncomputable def code13 : Code := match Try.f13.body with
  | some c => c
  | none => .skip
theorem fi13 : fi Try.prog 13 = some ⟨27, [.tmp 4], code13⟩ := by kernel_rfl
-- name 14 chartulary/chartularykit.OverBytes
noncomputable def code14 : Code := match Try.f14.body with
  | some c => c
  | none => .skip
theorem fi14 : fi Try.prog 14 = some ⟨21, [], code14⟩ := by kernel_rfl
-- name 15 chartulary/chartularykit.KeptBytes
noncomputable def code15 : Code := match Try.f15.body with
  | some c => c
  | none => .skip
theorem fi15 : fi Try.prog 15 = some ⟨44, [.tmp 4], code15⟩ := by kernel_rfl
-- name 16 chartulary/frame.Put
noncomputable def code16 : Code := match Try.f16.body with
  | some c => c
  | none => .skip
theorem fi16 : fi Try.prog 16 = some ⟨26, [.tmp 2, .tmp 3], code16⟩ := by kernel_rfl
-- name 17 chartulary/chartularylaw04.one
noncomputable def code17 : Code := match Try.f17.body with
  | some c => c
  | none => .skip
theorem fi17 : fi Try.prog 17 = some ⟨2, [.tmp 0], code17⟩ := by kernel_rfl
-- name 18 chartulary/frame.Size
noncomputable def code18 : Code := match Try.f18.body with
  | some c => c
  | none => .skip
theorem fi18 : fi Try.prog 18 = some ⟨8, [.tmp 2], code18⟩ := by kernel_rfl
-- name 19 chartulary/chartularylaw04.splits
noncomputable def code19 : Code := match Try.f19.body with
  | some c => c
  | none => .skip
theorem fi19 : fi Try.prog 19 = some ⟨38, [.tmp 6], code19⟩ := by kernel_rfl
-- name 20 chartulary/chartularylaw04.Long
noncomputable def code20 : Code := match Try.f20.body with
  | some c => c
  | none => .skip
theorem fi20 : fi Try.prog 20 = some ⟨23, [.tmp 2], code20⟩ := by kernel_rfl
-- name 21 chartulary/chartularylaw04.copied
noncomputable def code21 : Code := match Try.f21.body with
  | some c => c
  | none => .skip
theorem fi21 : fi Try.prog 21 = some ⟨20, [.tmp 2], code21⟩ := by kernel_rfl
-- name 22 chartulary/frame.Join
noncomputable def code22 : Code := match Try.f22.body with
  | some c => c
  | none => .skip
theorem fi22 : fi Try.prog 22 = some ⟨28, [.tmp 2, .tmp 3], code22⟩ := by kernel_rfl
-- name 23 chartulary/chartularyref04.Join
noncomputable def code23 : Code := match Try.f23.body with
  | some c => c
  | none => .skip
theorem fi23 : fi Try.prog 23 = some ⟨29, [.tmp 2, .tmp 3], code23⟩ := by kernel_rfl
-- name 24 chartulary/chartularykit.SameBytes
noncomputable def code24 : Code := match Try.f24.body with
  | some c => c
  | none => .skip
theorem fi24 : fi Try.prog 24 = some ⟨10, [.tmp 4], code24⟩ := by kernel_rfl
-- name 25 chartulary/chartularyref04.Size
noncomputable def code25 : Code := match Try.f25.body with
  | some c => c
  | none => .skip
theorem fi25 : fi Try.prog 25 = some ⟨11, [.tmp 2], code25⟩ := by kernel_rfl
-- name 26 chartulary/chartularyref04.Put
noncomputable def code26 : Code := match Try.f26.body with
  | some c => c
  | none => .skip
theorem fi26 : fi Try.prog 26 = some ⟨22, [.tmp 2, .tmp 3], code26⟩ := by kernel_rfl
-- name 27 chartulary/chartularykit.Pick
noncomputable def code27 : Code := match Try.f27.body with
  | some c => c
  | none => .skip
theorem fi27 : fi Try.prog 27 = some ⟨16, [.tmp 4], code27⟩ := by kernel_rfl
-- name 28 chartulary/chartularykit.marks
noncomputable def code28 : Code := match Try.f28.body with
  | some c => c
  | none => .skip
theorem fi28 : fi Try.prog 28 = some ⟨2, [.tmp 0], code28⟩ := by kernel_rfl
-- name 29 chartulary/chartularykit.CopyBytes
noncomputable def code29 : Code := match Try.f29.body with
  | some c => c
  | none => .skip
theorem fi29 : fi Try.prog 29 = some ⟨6, [.tmp 2], code29⟩ := by kernel_rfl
-- name 30 chartulary/frame.frames
noncomputable def code30 : Code := match Try.f30.body with
  | some c => c
  | none => .skip
theorem fi30 : fi Try.prog 30 = some ⟨4, [.tmp 2], code30⟩ := by kernel_rfl
-- name 31 chartulary/chartularyref04.stands
noncomputable def code31 : Code := match Try.f31.body with
  | some c => c
  | none => .skip
theorem fi31 : fi Try.prog 31 = some ⟨36, [.tmp 2], code31⟩ := by kernel_rfl
-- name 32 chartulary/frame.fits
noncomputable def code32 : Code := match Try.f32.body with
  | some c => c
  | none => .skip
theorem fi32 : fi Try.prog 32 = some ⟨9, [.tmp 2], code32⟩ := by kernel_rfl
-- name 33 chartulary/frame.put
noncomputable def code33 : Code := match Try.f33.body with
  | some c => c
  | none => .skip
theorem fi33 : fi Try.prog 33 = some ⟨17, [], code33⟩ := by kernel_rfl
-- name 34 chartulary/crc.Sum
noncomputable def code34 : Code := match Try.f34.body with
  | some c => c
  | none => .skip
theorem fi34 : fi Try.prog 34 = some ⟨5, [.tmp 2], code34⟩ := by kernel_rfl
-- name 35 chartulary/chartularyref04.four
noncomputable def code35 : Code := match Try.f35.body with
  | some c => c
  | none => .skip
theorem fi35 : fi Try.prog 35 = some ⟨15, [.tmp 2], code35⟩ := by kernel_rfl
-- name 36 chartulary/chartularyref02.Sum
noncomputable def code36 : Code := match Try.f36.body with
  | some c => c
  | none => .skip
theorem fi36 : fi Try.prog 36 = some ⟨5, [.tmp 2], code36⟩ := by kernel_rfl
-- name 37 chartulary/frame.frames$1
noncomputable def code37 : Code := match Try.f37.body with
  | some c => c
  | none => .skip
theorem fi37 : fi Try.prog 37 = some ⟨60, [], code37⟩ := by kernel_rfl
-- name 38 chartulary/frame.get
noncomputable def code38 : Code := match Try.f38.body with
  | some c => c
  | none => .skip
theorem fi38 : fi Try.prog 38 = some ⟨20, [.tmp 2], code38⟩ := by kernel_rfl
-- name 39 chartulary/chartularyref04.number
noncomputable def code39 : Code := match Try.f39.body with
  | some c => c
  | none => .skip
theorem fi39 : fi Try.prog 39 = some ⟨25, [.tmp 2], code39⟩ := by kernel_rfl
-- name 40 chartulary/crc.More
noncomputable def code40 : Code := match Try.f40.body with
  | some c => c
  | none => .skip
theorem fi40 : fi Try.prog 40 = some ⟨30, [.tmp 4], code40⟩ := by kernel_rfl
-- name 41 chartulary/chartularyref02.More
noncomputable def code41 : Code := match Try.f41.body with
  | some c => c
  | none => .skip
theorem fi41 : fi Try.prog 41 = some ⟨25, [.tmp 4], code41⟩ := by kernel_rfl
-- name 42 chartulary/crc.table
noncomputable def code42 : Code := match Try.f42.body with
  | some c => c
  | none => .skip
theorem fi42 : fi Try.prog 42 = some ⟨13, [.cell 0 58], code42⟩ := by kernel_rfl
-- name 43 chartulary/chartularyref02.on
noncomputable def code43 : Code := match Try.f43.body with
  | some c => c
  | none => .skip
theorem fi43 : fi Try.prog 43 = some ⟨18, [.tmp 4], code43⟩ := by kernel_rfl
-- name 44 chartulary/crc.on
noncomputable def code44 : Code := match Try.f44.body with
  | some c => c
  | none => .skip
theorem fi44 : fi Try.prog 44 = some ⟨19, [.tmp 4], code44⟩ := by kernel_rfl
-- name 45 (runtime.boundsError).Error
-- name 46 (runtime.boundsError).RuntimeError
-- name 47 (runtime.errorString).Error
-- name 48 (runtime.errorString).RuntimeError
-- name 49 (runtime.plainError).Error
-- name 50 (runtime.plainError).RuntimeError
-- name 51 (runtime.errorAddressString).Error
-- name 52 (runtime.errorAddressString).RuntimeError
-- name 53 (*runtime.TypeAssertionError).Error
-- name 54 (*runtime.TypeAssertionError).RuntimeError
-- name 55 (*runtime.PanicNilError).Error
-- name 56 (*runtime.PanicNilError).RuntimeError
-- name 57 (*internal/abi.Type).Align
-- name 58 (internal/runtime/maps.unhashableTypeError).Error
-- name 59 (internal/runtime/maps.unhashableTypeError).RuntimeError
end Go.Proofs.Ytdoeopcimhpjaaa
