/-
  The functions of this seat: facts for the symbolic machine, by our program fns.py.
-/
import Derived.Test.YtipahnpijmplhaaProg
import Derived.Test.YtipahnpijmplhaaSy14
import Derived.KernelRfl
open Go Go.SY
namespace Go.Proofs.Ytipahnpijmplhaa
-- name 0 main.main
-- name 1 gosem.cut
-- name 2 gosem.cut.init
noncomputable def code2 : Code := match Try.f2.body with
  | some c => c
  | none => .skip
theorem fi2 : fi Try.prog 2 = some ⟨1, [], code2⟩ := by kernel_rfl
-- name 3 chartulary/chartularylaw27.ManifestPuts
noncomputable def code3 : Code := match Try.f3.body with
  | some c => c
  | none => .skip
theorem fi3 : fi Try.prog 3 = some ⟨59, [.tmp 2], code3⟩ := by kernel_rfl
-- name 4 chartulary/chartularylaw27.ManifestMakes
noncomputable def code4 : Code := match Try.f4.body with
  | some c => c
  | none => .skip
theorem fi4 : fi Try.prog 4 = some ⟨96, [.tmp 8], code4⟩ := by kernel_rfl
-- name 5 chartulary/chartularylaw27.ManifestKnown
noncomputable def code5 : Code := match Try.f5.body with
  | some c => c
  | none => .skip
theorem fi5 : fi Try.prog 5 = some ⟨81, [.tmp 0], code5⟩ := by kernel_rfl
-- name 6 chartulary/chartularylaw27.ManifestBack
noncomputable def code6 : Code := match Try.f6.body with
  | some c => c
  | none => .skip
theorem fi6 : fi Try.prog 6 = some ⟨94, [.tmp 4], code6⟩ := by kernel_rfl
-- name 7 chartulary/chartularylaw27.awake
noncomputable def code7 : Code := match Try.f7.body with
  | some c => c
  | none => .skip
theorem fi7 : fi Try.prog 7 = some ⟨54, [.tmp 0], code7⟩ := by kernel_rfl
-- name 8 chartulary/chartularykit.CopyManifest
noncomputable def code8 : Code := match Try.f8.body with
  | some c => c
  | none => .skip
theorem fi8 : fi Try.prog 8 = some ⟨9, [.cell 2 24], code8⟩ := by kernel_rfl
-- name 9 chartulary/manifest.Put
noncomputable def code9 : Code := match Try.f9.body with
  | some c => c
  | none => .skip
theorem fi9 : fi Try.prog 9 = some ⟨44, [.tmp 2, .tmp 3], code9⟩ := by kernel_rfl
-- name 10 chartulary/chartularyref27.Put
noncomputable def code10 : Code := match Try.f10.body with
  | some c => c
  | none => .skip
theorem fi10 : fi Try.prog 10 = some ⟨50, [.tmp 2, .tmp 3], code10⟩ := by kernel_rfl
-- name 11 chartulary/chartularykit.SameBytes
noncomputable def code11 : Code := match Try.f11.body with
  | some c => c
  | none => .skip
theorem fi11 : fi Try.prog 11 = some ⟨10, [.tmp 4], code11⟩ := by kernel_rfl
-- name 12 chartulary/manifest.Check
noncomputable def code12 : Code := match Try.f12.body with
  | some c => c
  | none => .skip
theorem fi12 : fi Try.prog 12 = some ⟨34, [.tmp 2], code12⟩ := by kernel_rfl
-- name 13 chartulary/chartularyref27.Check
noncomputable def code13 : Code := match Try.f13.body with
  | some c => c
  | none => .skip
theorem fi13 : fi Try.prog 13 = some ⟨47, [.tmp 2], code13⟩ := by kernel_rfl
-- name 14 chartulary/manifest.Size
noncomputable def code14 : Code := match Try.f14.body with
  | some c => c
  | none => .skip
theorem fi14 : fi Try.prog 14 = some ⟨19, [.tmp 2], code14⟩ := by kernel_rfl
-- name 15 chartulary/chartularyref27.Size
noncomputable def code15 : Code := match Try.f15.body with
  | some c => c
  | none => .skip
theorem fi15 : fi Try.prog 15 = some ⟨21, [.tmp 2], code15⟩ := by kernel_rfl
-- name 16 chartulary/chartularykit.OverBytes
noncomputable def code16 : Code := match Try.f16.body with
  | some c => c
  | none => .skip
theorem fi16 : fi Try.prog 16 = some ⟨21, [], code16⟩ := by kernel_rfl
-- name 17 chartulary/chartularykit.SameManifest
noncomputable def code17 : Code := match Try.f17.body with
  | some c => c
  | none => .skip
theorem fi17 : fi Try.prog 17 = some ⟨50, [.tmp 4], code17⟩ := by kernel_rfl
-- name 18 chartulary/chartularykit.LongChunks
noncomputable def code18 : Code := match Try.f18.body with
  | some c => c
  | none => .skip
theorem fi18 : fi Try.prog 18 = some ⟨23, [.tmp 2], code18⟩ := by kernel_rfl
-- name 19 chartulary/chartularykit.CopyChunks
noncomputable def code19 : Code := match Try.f19.body with
  | some c => c
  | none => .skip
theorem fi19 : fi Try.prog 19 = some ⟨22, [.tmp 2], code19⟩ := by kernel_rfl
-- name 20 chartulary/manifest.Make
noncomputable def code20 : Code := match Try.f20.body with
  | some c => c
  | none => .skip
theorem fi20 : fi Try.prog 20 = some ⟨43, [.cell 4 24, .tmp 5], code20⟩ := by kernel_rfl
-- name 21 chartulary/chartularyref27.Make
noncomputable def code21 : Code := match Try.f21.body with
  | some c => c
  | none => .skip
theorem fi21 : fi Try.prog 21 = some ⟨49, [.cell 4 24, .tmp 5], code21⟩ := by kernel_rfl
-- name 22 chartulary/manifest.Restore
noncomputable def code22 : Code := match Try.f22.body with
  | some c => c
  | none => .skip
theorem fi22 : fi Try.prog 22 = some ⟨42, [.cell 4 27, .cell 5 28], code22⟩ := by kernel_rfl
-- name 23 chartulary/chartularyref27.Restore
noncomputable def code23 : Code := match Try.f23.body with
  | some c => c
  | none => .skip
theorem fi23 : fi Try.prog 23 = some ⟨61, [.tmp 4, .tmp 5], code23⟩ := by kernel_rfl
-- name 24 chartulary/chartularykit.SameChunks
noncomputable def code24 : Code := match Try.f24.body with
  | some c => c
  | none => .skip
theorem fi24 : fi Try.prog 24 = some ⟨31, [.tmp 4], code24⟩ := by kernel_rfl
-- name 25 chartulary/chartularylaw27.two
noncomputable def code25 : Code := match Try.f25.body with
  | some c => c
  | none => .skip
theorem fi25 : fi Try.prog 25 = some ⟨4, [.tmp 0], code25⟩ := by kernel_rfl
-- name 26 chartulary/manifest.Get
noncomputable def code26 : Code := match Try.f26.body with
  | some c => c
  | none => .skip
theorem fi26 : fi Try.prog 26 = some ⟨60, [.cell 2 24, .cell 3 47], code26⟩ := by kernel_rfl
-- name 27 chartulary/chartularylaw27.void
noncomputable def code27 : Code := match Try.f27.body with
  | some c => c
  | none => .skip
theorem fi27 : fi Try.prog 27 = some ⟨2, [.cell 0 24], code27⟩ := by kernel_rfl
-- name 28 chartulary/chartularylaw27.corrupt
noncomputable def code28 : Code := match Try.f28.body with
  | some c => c
  | none => .skip
theorem fi28 : fi Try.prog 28 = some ⟨20, [.tmp 4], code28⟩ := by kernel_rfl
-- name 29 chartulary/chartularylaw27.fails
noncomputable def code29 : Code := match Try.f29.body with
  | some c => c
  | none => .skip
theorem fi29 : fi Try.prog 29 = some ⟨24, [.tmp 6], code29⟩ := by kernel_rfl
-- name 30 chartulary/field.Put
noncomputable def code30 : Code := match Try.f30.body with
  | some c => c
  | none => .skip
theorem fi30 : fi Try.prog 30 = some ⟨100, [.tmp 4, .tmp 5], code30⟩ := by kernel_rfl
-- name 31 chartulary/chartularyref03.Put
noncomputable def code31 : Code := match Try.f31.body with
  | some c => c
  | none => .skip
theorem fi31 : fi Try.prog 31 = some ⟨88, [.tmp 4, .tmp 5], code31⟩ := by kernel_rfl
-- name 32 chartulary/manifest.Check$1
noncomputable def code32 : Code := match Try.f32.body with
  | some c => c
  | none => .skip
theorem fi32 : fi Try.prog 32 = some ⟨11, [.tmp 2], code32⟩ := by kernel_rfl
-- name 33 slices.ContainsFunc[[]chartulary/api.Part,chartulary/api.Part]
noncomputable def code33 : Code := match Try.f33.body with
  | some c => c
  | none => .skip
theorem fi33 : fi Try.prog 33 = some ⟨9, [.tmp 4], code33⟩ := by kernel_rfl
-- name 34 chartulary/chartularyref27.set
noncomputable def code34 : Code := match Try.f34.body with
  | some c => c
  | none => .skip
theorem fi34 : fi Try.prog 34 = some ⟨9, [.tmp 2], code34⟩ := by kernel_rfl
-- name 35 chartulary/chartularykit.CopyBytes
noncomputable def code35 : Code := match Try.f35.body with
  | some c => c
  | none => .skip
theorem fi35 : fi Try.prog 35 = some ⟨6, [.tmp 2], code35⟩ := by kernel_rfl
-- name 36 slices.ContainsFunc[[][]byte,[]byte]
noncomputable def code36 : Code := match Try.f36.body with
  | some c => c
  | none => .skip
theorem fi36 : fi Try.prog 36 = some ⟨9, [.tmp 4], code36⟩ := by kernel_rfl
-- name 37 chartulary/manifest.Make$1
noncomputable def code37 : Code := match Try.f37.body with
  | some c => c
  | none => .skip
theorem fi37 : fi Try.prog 37 = some ⟨6, [.tmp 2], code37⟩ := by kernel_rfl
-- name 38 chartulary/digest.Sum
noncomputable def code38 : Code := match Try.f38.body with
  | some c => c
  | none => .skip
theorem fi38 : fi Try.prog 38 = some ⟨71, [.cell 2 55], code38⟩ := by kernel_rfl
-- name 39 chartulary/chartularyref01.Sum
noncomputable def code39 : Code := match Try.f39.body with
  | some c => c
  | none => .skip
theorem fi39 : fi Try.prog 39 = some ⟨46, [.cell 2 55], code39⟩ := by kernel_rfl
-- name 40 chartulary/manifest.pairs
noncomputable def code40 : Code := match Try.f40.body with
  | some c => c
  | none => .skip
theorem fi40 : fi Try.prog 40 = some ⟨6, [.tmp 4], code40⟩ := by kernel_rfl
-- name 41 slices.Concat[[]byte,byte]
noncomputable def code41 : Code := match Try.f41.body with
  | some c => c
  | none => .skip
theorem fi41 : fi Try.prog 41 = some ⟨36, [.tmp 2], code41⟩ := by kernel_rfl
-- name 42 chartulary/field.Get
noncomputable def code42 : Code := match Try.f42.body with
  | some c => c
  | none => .skip
theorem fi42 : fi Try.prog 42 = some ⟨121, [.tmp 4, .cell 5 47], code42⟩ := by kernel_rfl
-- name 43 slices.Chunk[[]chartulary/api.Item,chartulary/api.Item]
noncomputable def code43 : Code := match Try.f43.body with
  | some c => c
  | none => .skip
theorem fi43 : fi Try.prog 43 = some ⟨9, [.tmp 4], code43⟩ := by kernel_rfl
-- name 44 chartulary/field.Check
noncomputable def code44 : Code := match Try.f44.body with
  | some c => c
  | none => .skip
theorem fi44 : fi Try.prog 44 = some ⟨49, [.tmp 2], code44⟩ := by kernel_rfl
-- name 45 (*chartulary/field.writer).field
noncomputable def code45 : Code := match Try.f45.body with
  | some c => c
  | none => .skip
theorem fi45 : fi Try.prog 45 = some ⟨96, [], code45⟩ := by kernel_rfl
-- name 46 chartulary/field.group
noncomputable def code46 : Code := match Try.f46.body with
  | some c => c
  | none => .skip
theorem fi46 : fi Try.prog 46 = some ⟨12, [.tmp 2, .tmp 3], code46⟩ := by kernel_rfl
-- name 47 (*chartulary/field.writer).count
noncomputable def code47 : Code := match Try.f47.body with
  | some c => c
  | none => .skip
theorem fi47 : fi Try.prog 47 = some ⟨59, [.tmp 2], code47⟩ := by kernel_rfl
-- name 48 (*chartulary/field.writer).fails
noncomputable def code48 : Code := match Try.f48.body with
  | some c => c
  | none => .skip
theorem fi48 : fi Try.prog 48 = some ⟨13, [], code48⟩ := by kernel_rfl
-- name 49 chartulary/chartularyref03.Check
noncomputable def code49 : Code := match Try.f49.body with
  | some c => c
  | none => .skip
theorem fi49 : fi Try.prog 49 = some ⟨44, [.tmp 2], code49⟩ := by kernel_rfl
-- name 50 (*chartulary/chartularyref03.writer).field
noncomputable def code50 : Code := match Try.f50.body with
  | some c => c
  | none => .skip
theorem fi50 : fi Try.prog 50 = some ⟨88, [], code50⟩ := by kernel_rfl
-- name 51 chartulary/chartularyref03.group
noncomputable def code51 : Code := match Try.f51.body with
  | some c => c
  | none => .skip
theorem fi51 : fi Try.prog 51 = some ⟨13, [.tmp 2], code51⟩ := by kernel_rfl
-- name 52 (*chartulary/chartularyref03.writer).count
noncomputable def code52 : Code := match Try.f52.body with
  | some c => c
  | none => .skip
theorem fi52 : fi Try.prog 52 = some ⟨54, [.tmp 4], code52⟩ := by kernel_rfl
-- name 53 (*chartulary/chartularyref03.writer).fails
noncomputable def code53 : Code := match Try.f53.body with
  | some c => c
  | none => .skip
theorem fi53 : fi Try.prog 53 = some ⟨13, [], code53⟩ := by kernel_rfl
-- name 54 slices.IndexFunc[[]chartulary/api.Part,chartulary/api.Part]
noncomputable def code54 : Code := match Try.f54.body with
  | some c => c
  | none => .skip
theorem fi54 : fi Try.prog 54 = some ⟨19, [.tmp 4], code54⟩ := by kernel_rfl
-- name 55 slices.IndexFunc[[][]byte,[]byte]
noncomputable def code55 : Code := match Try.f55.body with
  | some c => c
  | none => .skip
theorem fi55 : fi Try.prog 55 = some ⟨19, [.tmp 4], code55⟩ := by kernel_rfl
-- name 56 slices.Clone[[]byte,byte]
noncomputable def code56 : Code := match Try.f56.body with
  | some c => c
  | none => .skip
theorem fi56 : fi Try.prog 56 = some ⟨8, [.tmp 2], code56⟩ := by kernel_rfl
-- name 57 chartulary/digest.digitsOf
noncomputable def code57 : Code := match Try.f57.body with
  | some c => c
  | none => .skip
theorem fi57 : fi Try.prog 57 = some ⟨26, [.tmp 4], code57⟩ := by kernel_rfl
-- name 58 chartulary/digest.constants
noncomputable def code58 : Code := match Try.f58.body with
  | some c => c
  | none => .skip
theorem fi58 : fi Try.prog 58 = some ⟨2, [.cell 0 98], code58⟩ := by kernel_rfl
-- name 59 chartulary/digest.first
noncomputable def code59 : Code := match Try.f59.body with
  | some c => c
  | none => .skip
theorem fi59 : fi Try.prog 59 = some ⟨2, [.cell 0 101], code59⟩ := by kernel_rfl
-- name 60 slices.Chunk[[]byte,byte]
noncomputable def code60 : Code := match Try.f60.body with
  | some c => c
  | none => .skip
theorem fi60 : fi Try.prog 60 = some ⟨9, [.tmp 4], code60⟩ := by kernel_rfl
-- name 61 (chartulary/digest.state).done
noncomputable def code61 : Code := match Try.f61.body with
  | some c => c
  | none => .skip
theorem fi61 : fi Try.prog 61 = some ⟨118, [.cell 6 101], code61⟩ := by kernel_rfl
-- name 62 chartulary/chartularyref01.first
noncomputable def code62 : Code := match Try.f62.body with
  | some c => c
  | none => .skip
theorem fi62 : fi Try.prog 62 = some ⟨2, [.tmp 0], code62⟩ := by kernel_rfl
-- name 63 chartulary/chartularyref01.constants
noncomputable def code63 : Code := match Try.f63.body with
  | some c => c
  | none => .skip
theorem fi63 : fi Try.prog 63 = some ⟨2, [.tmp 0], code63⟩ := by kernel_rfl
-- name 64 chartulary/chartularyref01.filled
noncomputable def code64 : Code := match Try.f64.body with
  | some c => c
  | none => .skip
theorem fi64 : fi Try.prog 64 = some ⟨37, [.tmp 2], code64⟩ := by kernel_rfl
-- name 65 chartulary/chartularyref01.block
noncomputable def code65 : Code := match Try.f65.body with
  | some c => c
  | none => .skip
theorem fi65 : fi Try.prog 65 = some ⟨156, [.tmp 6], code65⟩ := by kernel_rfl
-- name 66 chartulary/manifest.pairs$1
noncomputable def code66 : Code := match Try.f66.body with
  | some c => c
  | none => .skip
theorem fi66 : fi Try.prog 66 = some ⟨22, [], code66⟩ := by kernel_rfl
-- name 67 slices.Grow[[]byte,byte]
noncomputable def code67 : Code := match Try.f67.body with
  | some c => c
  | none => .skip
theorem fi67 : fi Try.prog 67 = some ⟨27, [.tmp 4], code67⟩ := by kernel_rfl
-- name 68 (*chartulary/field.reader).field
noncomputable def code68 : Code := match Try.f68.body with
  | some c => c
  | none => .skip
theorem fi68 : fi Try.prog 68 = some ⟨34, [], code68⟩ := by kernel_rfl
-- name 69 (*chartulary/field.reader).count
noncomputable def code69 : Code := match Try.f69.body with
  | some c => c
  | none => .skip
theorem fi69 : fi Try.prog 69 = some ⟨28, [.tmp 4], code69⟩ := by kernel_rfl
-- name 70 (*chartulary/field.reader).fails
noncomputable def code70 : Code := match Try.f70.body with
  | some c => c
  | none => .skip
theorem fi70 : fi Try.prog 70 = some ⟨18, [], code70⟩ := by kernel_rfl
-- name 71 slices.Chunk[[]chartulary/api.Item,chartulary/api.Item]$1
noncomputable def code71 : Code := match Try.f71.body with
  | some c => c
  | none => .skip
theorem fi71 : fi Try.prog 71 = some ⟨31, [], code71⟩ := by kernel_rfl
-- name 72 (*chartulary/field.writer).next
noncomputable def code72 : Code := match Try.f72.body with
  | some c => c
  | none => .skip
theorem fi72 : fi Try.prog 72 = some ⟨27, [.cell 2 57], code72⟩ := by kernel_rfl
-- name 73 chartulary/field.number
noncomputable def code73 : Code := match Try.f73.body with
  | some c => c
  | none => .skip
theorem fi73 : fi Try.prog 73 = some ⟨20, [.tmp 4], code73⟩ := by kernel_rfl
-- name 74 strings.IndexByte
noncomputable def code74 : Code := match Try.f74.body with
  | some c => c
  | none => .skip
theorem fi74 : fi Try.prog 74 = some ⟨8, [.tmp 4], code74⟩ := by kernel_rfl
-- name 75 chartulary/chartularyref03.letter
noncomputable def code75 : Code := match Try.f75.body with
  | some c => c
  | none => .skip
theorem fi75 : fi Try.prog 75 = some ⟨13, [.tmp 2], code75⟩ := by kernel_rfl
-- name 76 (*chartulary/chartularyref03.writer).next
noncomputable def code76 : Code := match Try.f76.body with
  | some c => c
  | none => .skip
theorem fi76 : fi Try.prog 76 = some ⟨46, [.cell 2 57], code76⟩ := by kernel_rfl
-- name 77 chartulary/chartularyref03.number
noncomputable def code77 : Code := match Try.f77.body with
  | some c => c
  | none => .skip
theorem fi77 : fi Try.prog 77 = some ⟨20, [.tmp 2], code77⟩ := by kernel_rfl
-- name 78 slices.Chunk[[]byte,byte]$1
noncomputable def code78 : Code := match Try.f78.body with
  | some c => c
  | none => .skip
theorem fi78 : fi Try.prog 78 = some ⟨31, [], code78⟩ := by kernel_rfl
-- name 79 chartulary/digest.spread
noncomputable def code79 : Code := match Try.f79.body with
  | some c => c
  | none => .skip
theorem fi79 : fi Try.prog 79 = some ⟨64, [.cell 2 98], code79⟩ := by kernel_rfl
-- name 80 chartulary/digest.turned
noncomputable def code80 : Code := match Try.f80.body with
  | some c => c
  | none => .skip
theorem fi80 : fi Try.prog 80 = some ⟨9, [.tmp 4], code80⟩ := by kernel_rfl
-- name 81 chartulary/chartularyref01.words
noncomputable def code81 : Code := match Try.f81.body with
  | some c => c
  | none => .skip
theorem fi81 : fi Try.prog 81 = some ⟨99, [.tmp 2], code81⟩ := by kernel_rfl
-- name 82 chartulary/chartularyref01.turned
noncomputable def code82 : Code := match Try.f82.body with
  | some c => c
  | none => .skip
theorem fi82 : fi Try.prog 82 = some ⟨13, [.tmp 4], code82⟩ := by kernel_rfl
-- name 83 (*chartulary/field.reader).take
noncomputable def code83 : Code := match Try.f83.body with
  | some c => c
  | none => .skip
theorem fi83 : fi Try.prog 83 = some ⟨55, [.tmp 4], code83⟩ := by kernel_rfl
-- name 84 (*chartulary/field.reader).number
noncomputable def code84 : Code := match Try.f84.body with
  | some c => c
  | none => .skip
theorem fi84 : fi Try.prog 84 = some ⟨54, [.tmp 2], code84⟩ := by kernel_rfl
-- name 85 internal/stringslite.IndexByte
noncomputable def code85 : Code := match Try.f85.body with
  | some c => c
  | none => .skip
theorem fi85 : fi Try.prog 85 = some ⟨8, [.tmp 4], code85⟩ := by kernel_rfl
-- name 86 chartulary/digest.number
noncomputable def code86 : Code := match Try.f86.body with
  | some c => c
  | none => .skip
theorem fi86 : fi Try.prog 86 = some ⟨18, [.tmp 2], code86⟩ := by kernel_rfl
-- name 87 math/bits.RotateLeft32
noncomputable def code87 : Code := match Try.f87.body with
  | some c => c
  | none => .skip
theorem fi87 : fi Try.prog 87 = some ⟨17, [.tmp 4], code87⟩ := by kernel_rfl
-- name 88 internal/bytealg.IndexByteString
-- name 89 (runtime.boundsError).Error
-- name 90 (runtime.boundsError).RuntimeError
-- name 91 (runtime.errorString).Error
-- name 92 (runtime.errorString).RuntimeError
-- name 93 (runtime.plainError).Error
-- name 94 (runtime.plainError).RuntimeError
-- name 95 (runtime.errorAddressString).Error
-- name 96 (runtime.errorAddressString).RuntimeError
-- name 97 (*runtime.TypeAssertionError).Error
-- name 98 (*runtime.TypeAssertionError).RuntimeError
-- name 99 (*runtime.PanicNilError).Error
-- name 100 (*runtime.PanicNilError).RuntimeError
-- name 101 (*internal/abi.Type).Align
-- name 102 (internal/runtime/maps.unhashableTypeError).Error
-- name 103 (internal/runtime/maps.unhashableTypeError).RuntimeError
-- name 104 (chartulary/api.Errno).Error
-- name 105 (internal/abi.Kind).String
end Go.Proofs.Ytipahnpijmplhaa
