/-
  The functions of this seat: facts for the symbolic machine, by our program fns.py.
-/
import Derived.Test.YtdanhpemheldlaaProg
import Derived.Test.YtdanhpemheldlaaSy14
import Derived.KernelRfl
open Go Go.SY
namespace Go.Proofs.Ytdanhpemheldlaa
-- name 0 main.main
-- name 1 gosem.cut
-- name 2 gosem.cut.init
noncomputable def code2 : Code := match Try.f2.body with
  | some c => c
  | none => .skip
theorem fi2 : fi Try.prog 2 = some ⟨1, [], code2⟩ := by kernel_rfl
-- name 3 chartulary/chartularylaw12.ViewMerges
noncomputable def code3 : Code := match Try.f3.body with
  | some c => c
  | none => .skip
theorem fi3 : fi Try.prog 3 = some ⟨92, [.tmp 4], code3⟩ := by kernel_rfl
-- name 4 chartulary/chartularylaw12.ViewForward
noncomputable def code4 : Code := match Try.f4.body with
  | some c => c
  | none => .skip
theorem fi4 : fi Try.prog 4 = some ⟨173, [.tmp 4], code4⟩ := by kernel_rfl
-- name 5 chartulary/chartularylaw12.ViewKnown
noncomputable def code5 : Code := match Try.f5.body with
  | some c => c
  | none => .skip
theorem fi5 : fi Try.prog 5 = some ⟨67, [.tmp 0], code5⟩ := by kernel_rfl
-- name 6 chartulary/chartularylaw12.ViewLive
noncomputable def code6 : Code := match Try.f6.body with
  | some c => c
  | none => .skip
theorem fi6 : fi Try.prog 6 = some ⟨100, [.tmp 4], code6⟩ := by kernel_rfl
-- name 7 chartulary/chartularylaw12.ViewTells
noncomputable def code7 : Code := match Try.f7.body with
  | some c => c
  | none => .skip
theorem fi7 : fi Try.prog 7 = some ⟨92, [.tmp 6], code7⟩ := by kernel_rfl
-- name 8 chartulary/chartularylaw12.ViewOrder
noncomputable def code8 : Code := match Try.f8.body with
  | some c => c
  | none => .skip
theorem fi8 : fi Try.prog 8 = some ⟨182, [.tmp 6], code8⟩ := by kernel_rfl
-- name 9 chartulary/chartularylaw12.awake
noncomputable def code9 : Code := match Try.f9.body with
  | some c => c
  | none => .skip
theorem fi9 : fi Try.prog 9 = some ⟨43, [.tmp 0], code9⟩ := by kernel_rfl
-- name 10 chartulary/view.Merge
noncomputable def code10 : Code := match Try.f10.body with
  | some c => c
  | none => .skip
theorem fi10 : fi Try.prog 10 = some ⟨64, [.tmp 4, .tmp 5, .tmp 6], code10⟩ := by kernel_rfl
-- name 11 chartulary/chartularyref12.Merge
noncomputable def code11 : Code := match Try.f11.body with
  | some c => c
  | none => .skip
theorem fi11 : fi Try.prog 11 = some ⟨79, [.tmp 4, .tmp 5, .tmp 6], code11⟩ := by kernel_rfl
-- name 12 chartulary/chartularykit.SameMembers
noncomputable def code12 : Code := match Try.f12.body with
  | some c => c
  | none => .skip
theorem fi12 : fi Try.prog 12 = some ⟨26, [.tmp 4], code12⟩ := by kernel_rfl
-- name 13 chartulary/view.Check
noncomputable def code13 : Code := match Try.f13.body with
  | some c => c
  | none => .skip
theorem fi13 : fi Try.prog 13 = some ⟨24, [.tmp 2], code13⟩ := by kernel_rfl
-- name 14 chartulary/chartularylaw12.fine
noncomputable def code14 : Code := match Try.f14.body with
  | some c => c
  | none => .skip
theorem fi14 : fi Try.prog 14 = some ⟨16, [.tmp 2], code14⟩ := by kernel_rfl
-- name 15 chartulary/view.Get
noncomputable def code15 : Code := match Try.f15.body with
  | some c => c
  | none => .skip
theorem fi15 : fi Try.prog 15 = some ⟨28, [.cell 4 29, .tmp 5], code15⟩ := by kernel_rfl
-- name 16 chartulary/member.Over
noncomputable def code16 : Code := match Try.f16.body with
  | some c => c
  | none => .skip
theorem fi16 : fi Try.prog 16 = some ⟨14, [.tmp 4], code16⟩ := by kernel_rfl
-- name 17 chartulary/chartularylaw12.two
noncomputable def code17 : Code := match Try.f17.body with
  | some c => c
  | none => .skip
theorem fi17 : fi Try.prog 17 = some ⟨4, [.tmp 0], code17⟩ := by kernel_rfl
-- name 18 chartulary/chartularykit.SameInts
noncomputable def code18 : Code := match Try.f18.body with
  | some c => c
  | none => .skip
theorem fi18 : fi Try.prog 18 = some ⟨31, [.tmp 4], code18⟩ := by kernel_rfl
-- name 19 chartulary/view.Live
noncomputable def code19 : Code := match Try.f19.body with
  | some c => c
  | none => .skip
theorem fi19 : fi Try.prog 19 = some ⟨5, [.tmp 2], code19⟩ := by kernel_rfl
-- name 20 chartulary/view.Alive
noncomputable def code20 : Code := match Try.f20.body with
  | some c => c
  | none => .skip
theorem fi20 : fi Try.prog 20 = some ⟨5, [.tmp 2], code20⟩ := by kernel_rfl
-- name 21 chartulary/chartularykit.Pick
noncomputable def code21 : Code := match Try.f21.body with
  | some c => c
  | none => .skip
theorem fi21 : fi Try.prog 21 = some ⟨16, [.tmp 4], code21⟩ := by kernel_rfl
-- name 22 chartulary/member.Live
noncomputable def code22 : Code := match Try.f22.body with
  | some c => c
  | none => .skip
theorem fi22 : fi Try.prog 22 = some ⟨11, [.tmp 2], code22⟩ := by kernel_rfl
-- name 23 chartulary/chartularyref12.Get
noncomputable def code23 : Code := match Try.f23.body with
  | some c => c
  | none => .skip
theorem fi23 : fi Try.prog 23 = some ⟨22, [.cell 4 29, .tmp 5], code23⟩ := by kernel_rfl
-- name 24 chartulary/chartularyref12.Live
noncomputable def code24 : Code := match Try.f24.body with
  | some c => c
  | none => .skip
theorem fi24 : fi Try.prog 24 = some ⟨30, [.tmp 2], code24⟩ := by kernel_rfl
-- name 25 chartulary/chartularyref12.Alive
noncomputable def code25 : Code := match Try.f25.body with
  | some c => c
  | none => .skip
theorem fi25 : fi Try.prog 25 = some ⟨31, [.tmp 2], code25⟩ := by kernel_rfl
-- name 26 chartulary/chartularyref12.Check
noncomputable def code26 : Code := match Try.f26.body with
  | some c => c
  | none => .skip
theorem fi26 : fi Try.prog 26 = some ⟨34, [.tmp 2], code26⟩ := by kernel_rfl
-- name 27 chartulary/view.Same
noncomputable def code27 : Code := match Try.f27.body with
  | some c => c
  | none => .skip
theorem fi27 : fi Try.prog 27 = some ⟨8, [.tmp 4], code27⟩ := by kernel_rfl
-- name 28 chartulary/chartularyref12.Same
noncomputable def code28 : Code := match Try.f28.body with
  | some c => c
  | none => .skip
theorem fi28 : fi Try.prog 28 = some ⟨26, [.tmp 4], code28⟩ := by kernel_rfl
-- name 29 chartulary/chartularykit.OverInts
noncomputable def code29 : Code := match Try.f29.body with
  | some c => c
  | none => .skip
theorem fi29 : fi Try.prog 29 = some ⟨21, [], code29⟩ := by kernel_rfl
-- name 30 slices.ContainsFunc[[]chartulary/api.Member,chartulary/api.Member]
noncomputable def code30 : Code := match Try.f30.body with
  | some c => c
  | none => .skip
theorem fi30 : fi Try.prog 30 = some ⟨9, [.tmp 4], code30⟩ := by kernel_rfl
-- name 31 chartulary/view.Merge$1
noncomputable def code31 : Code := match Try.f31.body with
  | some c => c
  | none => .skip
theorem fi31 : fi Try.prog 31 = some ⟨6, [.tmp 2], code31⟩ := by kernel_rfl
-- name 32 chartulary/member.Check
noncomputable def code32 : Code := match Try.f32.body with
  | some c => c
  | none => .skip
theorem fi32 : fi Try.prog 32 = some ⟨32, [.tmp 2], code32⟩ := by kernel_rfl
-- name 33 slices.Clone[[]chartulary/api.Member,chartulary/api.Member]
noncomputable def code33 : Code := match Try.f33.body with
  | some c => c
  | none => .skip
theorem fi33 : fi Try.prog 33 = some ⟨8, [.tmp 2], code33⟩ := by kernel_rfl
-- name 34 chartulary/view.search[chartulary/api.Member,int]
noncomputable def code34 : Code := match Try.f34.body with
  | some c => c
  | none => .skip
theorem fi34 : fi Try.prog 34 = some ⟨14, [.tmp 6, .tmp 7], code34⟩ := by kernel_rfl
-- name 35 chartulary/view.key
noncomputable def code35 : Code := match Try.f35.body with
  | some c => c
  | none => .skip
theorem fi35 : fi Try.prog 35 = some ⟨5, [.tmp 2], code35⟩ := by kernel_rfl
-- name 36 slices.Insert[[]chartulary/api.Member,chartulary/api.Member]
noncomputable def code36 : Code := match Try.f36.body with
  | some c => c
  | none => .skip
theorem fi36 : fi Try.prog 36 = some ⟨95, [.tmp 6], code36⟩ := by kernel_rfl
-- name 37 chartulary/member.Merge
noncomputable def code37 : Code := match Try.f37.body with
  | some c => c
  | none => .skip
theorem fi37 : fi Try.prog 37 = some ⟨19, [.cell 4 29, .tmp 5], code37⟩ := by kernel_rfl
-- name 38 slices.Collect[chartulary/api.Member]
noncomputable def code38 : Code := match Try.f38.body with
  | some c => c
  | none => .skip
theorem fi38 : fi Try.prog 38 = some ⟨5, [.tmp 2], code38⟩ := by kernel_rfl
-- name 39 chartulary/view.fresh
noncomputable def code39 : Code := match Try.f39.body with
  | some c => c
  | none => .skip
theorem fi39 : fi Try.prog 39 = some ⟨6, [.tmp 4], code39⟩ := by kernel_rfl
-- name 40 chartulary/chartularyref11.Check
noncomputable def code40 : Code := match Try.f40.body with
  | some c => c
  | none => .skip
theorem fi40 : fi Try.prog 40 = some ⟨31, [.tmp 2], code40⟩ := by kernel_rfl
-- name 41 chartulary/chartularyref12.merged
noncomputable def code41 : Code := match Try.f41.body with
  | some c => c
  | none => .skip
theorem fi41 : fi Try.prog 41 = some ⟨67, [.tmp 4], code41⟩ := by kernel_rfl
-- name 42 chartulary/chartularyref12.word
noncomputable def code42 : Code := match Try.f42.body with
  | some c => c
  | none => .skip
theorem fi42 : fi Try.prog 42 = some ⟨25, [.cell 4 29, .tmp 5], code42⟩ := by kernel_rfl
-- name 43 chartulary/member.both
noncomputable def code43 : Code := match Try.f43.body with
  | some c => c
  | none => .skip
theorem fi43 : fi Try.prog 43 = some ⟨20, [.tmp 4], code43⟩ := by kernel_rfl
-- name 44 chartulary/member.order
noncomputable def code44 : Code := match Try.f44.body with
  | some c => c
  | none => .skip
theorem fi44 : fi Try.prog 44 = some ⟨17, [.tmp 4], code44⟩ := by kernel_rfl
-- name 45 chartulary/view.those
noncomputable def code45 : Code := match Try.f45.body with
  | some c => c
  | none => .skip
theorem fi45 : fi Try.prog 45 = some ⟨28, [.tmp 4], code45⟩ := by kernel_rfl
-- name 46 chartulary/view.Alive$1
noncomputable def code46 : Code := match Try.f46.body with
  | some c => c
  | none => .skip
theorem fi46 : fi Try.prog 46 = some ⟨6, [.tmp 2], code46⟩ := by kernel_rfl
-- name 47 chartulary/chartularyref11.Live
noncomputable def code47 : Code := match Try.f47.body with
  | some c => c
  | none => .skip
theorem fi47 : fi Try.prog 47 = some ⟨11, [.tmp 2], code47⟩ := by kernel_rfl
-- name 48 slices.Equal[[]chartulary/api.Member,chartulary/api.Member]
noncomputable def code48 : Code := match Try.f48.body with
  | some c => c
  | none => .skip
theorem fi48 : fi Try.prog 48 = some ⟨26, [.tmp 4], code48⟩ := by kernel_rfl
-- name 49 slices.IndexFunc[[]chartulary/api.Member,chartulary/api.Member]
noncomputable def code49 : Code := match Try.f49.body with
  | some c => c
  | none => .skip
theorem fi49 : fi Try.prog 49 = some ⟨19, [.tmp 4], code49⟩ := by kernel_rfl
-- name 50 slices.BinarySearchFunc[[]chartulary/api.Member,chartulary/api.Member,int]
noncomputable def code50 : Code := match Try.f50.body with
  | some c => c
  | none => .skip
theorem fi50 : fi Try.prog 50 = some ⟨49, [.tmp 6, .tmp 7], code50⟩ := by kernel_rfl
-- name 51 chartulary/view.search[chartulary/api.Member,int]$1
noncomputable def code51 : Code := match Try.f51.body with
  | some c => c
  | none => .skip
theorem fi51 : fi Try.prog 51 = some ⟨11, [.tmp 5], code51⟩ := by kernel_rfl
-- name 52 cmp.Compare[int]
noncomputable def code52 : Code := match Try.f52.body with
  | some c => c
  | none => .skip
theorem fi52 : fi Try.prog 52 = some ⟨20, [.tmp 4], code52⟩ := by kernel_rfl
-- name 53 slices.overlaps[chartulary/api.Member]
-- name 54 slices.rotateRight[chartulary/api.Member]
noncomputable def code54 : Code := match Try.f54.body with
  | some c => c
  | none => .skip
theorem fi54 : fi Try.prog 54 = some ⟨10, [], code54⟩ := by kernel_rfl
-- name 55 slices.AppendSeq[[]chartulary/api.Member,chartulary/api.Member]
noncomputable def code55 : Code := match Try.f55.body with
  | some c => c
  | none => .skip
theorem fi55 : fi Try.prog 55 = some ⟨13, [.tmp 4], code55⟩ := by kernel_rfl
-- name 56 chartulary/view.fresh$1
noncomputable def code56 : Code := match Try.f56.body with
  | some c => c
  | none => .skip
theorem fi56 : fi Try.prog 56 = some ⟨35, [], code56⟩ := by kernel_rfl
-- name 57 chartulary/chartularyref11.Merge
noncomputable def code57 : Code := match Try.f57.body with
  | some c => c
  | none => .skip
theorem fi57 : fi Try.prog 57 = some ⟨16, [.cell 4 29, .tmp 5], code57⟩ := by kernel_rfl
-- name 58 cmp.Or[int]
noncomputable def code58 : Code := match Try.f58.body with
  | some c => c
  | none => .skip
theorem fi58 : fi Try.prog 58 = some ⟨18, [.tmp 2], code58⟩ := by kernel_rfl
-- name 59 cmp.isNaN[int]
noncomputable def code59 : Code := match Try.f59.body with
  | some c => c
  | none => .skip
theorem fi59 : fi Try.prog 59 = some ⟨6, [.tmp 2], code59⟩ := by kernel_rfl
-- name 60 slices.rotateLeft[chartulary/api.Member]
noncomputable def code60 : Code := match Try.f60.body with
  | some c => c
  | none => .skip
theorem fi60 : fi Try.prog 60 = some ⟨14, [], code60⟩ := by kernel_rfl
-- name 61 chartulary/chartularyref11.both
noncomputable def code61 : Code := match Try.f61.body with
  | some c => c
  | none => .skip
theorem fi61 : fi Try.prog 61 = some ⟨20, [.tmp 4], code61⟩ := by kernel_rfl
-- name 62 chartulary/chartularyref11.Over
noncomputable def code62 : Code := match Try.f62.body with
  | some c => c
  | none => .skip
theorem fi62 : fi Try.prog 62 = some ⟨29, [.tmp 4], code62⟩ := by kernel_rfl
-- name 63 slices.Reverse[[]chartulary/api.Member,chartulary/api.Member]
noncomputable def code63 : Code := match Try.f63.body with
  | some c => c
  | none => .skip
theorem fi63 : fi Try.prog 63 = some ⟨28, [], code63⟩ := by kernel_rfl
-- name 64 (runtime.boundsError).Error
-- name 65 (runtime.boundsError).RuntimeError
-- name 66 (runtime.errorString).Error
-- name 67 (runtime.errorString).RuntimeError
-- name 68 (runtime.plainError).Error
-- name 69 (runtime.plainError).RuntimeError
-- name 70 (runtime.errorAddressString).Error
-- name 71 (runtime.errorAddressString).RuntimeError
-- name 72 (*runtime.TypeAssertionError).Error
-- name 73 (*runtime.TypeAssertionError).RuntimeError
-- name 74 (*runtime.PanicNilError).Error
-- name 75 (*runtime.PanicNilError).RuntimeError
-- name 76 (*internal/abi.Type).Align
-- name 77 (internal/runtime/maps.unhashableTypeError).Error
-- name 78 (internal/runtime/maps.unhashableTypeError).RuntimeError
-- name 79 (chartulary/api.Errno).Error
-- name 80 (internal/abi.Kind).String
end Go.Proofs.Ytdanhpemheldlaa
