/-
  The functions of this seat: facts for the symbolic machine, by our program fns.py.
-/
import Derived.Test.YtconldbakjfbhaaProg
import Derived.Test.YtconldbakjfbhaaSy14
import Derived.KernelRfl
open Go Go.SY
namespace Go.Proofs.Ytconldbakjfbhaa
-- name 0 main.main
-- name 1 gosem.cut
-- name 2 gosem.cut.init
noncomputable def code2 : Code := match Try.f2.body with
  | some c => c
  | none => .skip
theorem fi2 : fi Try.prog 2 = some ⟨1, [], code2⟩ := by kernel_rfl
-- name 3 chartulary/chartularylaw05.LotScript
noncomputable def code3 : Code := match Try.f3.body with
  | some c => c
  | none => .skip
theorem fi3 : fi Try.prog 3 = some ⟨107, [.tmp 4], code3⟩ := by kernel_rfl
-- name 4 chartulary/chartularylaw05.LotNone
noncomputable def code4 : Code := match Try.f4.body with
  | some c => c
  | none => .skip
theorem fi4 : fi Try.prog 4 = some ⟨48, [.tmp 2], code4⟩ := by kernel_rfl
-- name 5 chartulary/chartularylaw05.LotKnown
noncomputable def code5 : Code := match Try.f5.body with
  | some c => c
  | none => .skip
theorem fi5 : fi Try.prog 5 = some ⟨38, [.tmp 0], code5⟩ := by kernel_rfl
-- name 6 chartulary/chartularylaw05.LotOrders
noncomputable def code6 : Code := match Try.f6.body with
  | some c => c
  | none => .skip
theorem fi6 : fi Try.prog 6 = some ⟨120, [.tmp 4], code6⟩ := by kernel_rfl
-- name 7 chartulary/chartularylaw05.LotTail
noncomputable def code7 : Code := match Try.f7.body with
  | some c => c
  | none => .skip
theorem fi7 : fi Try.prog 7 = some ⟨137, [.tmp 6], code7⟩ := by kernel_rfl
-- name 8 chartulary/chartularylaw05.awake
noncomputable def code8 : Code := match Try.f8.body with
  | some c => c
  | none => .skip
theorem fi8 : fi Try.prog 8 = some ⟨38, [.tmp 0], code8⟩ := by kernel_rfl
-- name 9 chartulary/chartularykit.CopyInts
noncomputable def code9 : Code := match Try.f9.body with
  | some c => c
  | none => .skip
theorem fi9 : fi Try.prog 9 = some ⟨6, [.tmp 2], code9⟩ := by kernel_rfl
-- name 10 chartulary/lot.New
noncomputable def code10 : Code := match Try.f10.body with
  | some c => c
  | none => .skip
theorem fi10 : fi Try.prog 10 = some ⟨15, [.tmp 2, .tmp 3], code10⟩ := by kernel_rfl
-- name 11 chartulary/chartularyref05.New
noncomputable def code11 : Code := match Try.f11.body with
  | some c => c
  | none => .skip
theorem fi11 : fi Try.prog 11 = some ⟨24, [.tmp 2, .tmp 3], code11⟩ := by kernel_rfl
-- name 12 chartulary/chartularykit.SameInts
noncomputable def code12 : Code := match Try.f12.body with
  | some c => c
  | none => .skip
theorem fi12 : fi Try.prog 12 = some ⟨31, [.tmp 4], code12⟩ := by kernel_rfl
-- name 13 chartulary/chartularykit.OverInts
noncomputable def code13 : Code := match Try.f13.body with
  | some c => c
  | none => .skip
theorem fi13 : fi Try.prog 13 = some ⟨21, [], code13⟩ := by kernel_rfl
-- name 14 chartulary/chartularykit.Pick
noncomputable def code14 : Code := match Try.f14.body with
  | some c => c
  | none => .skip
theorem fi14 : fi Try.prog 14 = some ⟨16, [.tmp 4], code14⟩ := by kernel_rfl
-- name 15 (*chartulary/lot.Lots).Shuffle
noncomputable def code15 : Code := match Try.f15.body with
  | some c => c
  | none => .skip
theorem fi15 : fi Try.prog 15 = some ⟨60, [.tmp 4], code15⟩ := by kernel_rfl
-- name 16 (*chartulary/chartularyref05.Lots).Shuffle
noncomputable def code16 : Code := match Try.f16.body with
  | some c => c
  | none => .skip
theorem fi16 : fi Try.prog 16 = some ⟨47, [.tmp 4], code16⟩ := by kernel_rfl
-- name 17 (*chartulary/lot.Lots).Draw
noncomputable def code17 : Code := match Try.f17.body with
  | some c => c
  | none => .skip
theorem fi17 : fi Try.prog 17 = some ⟨44, [.tmp 2], code17⟩ := by kernel_rfl
-- name 18 (*chartulary/chartularyref05.Lots).Draw
noncomputable def code18 : Code := match Try.f18.body with
  | some c => c
  | none => .skip
theorem fi18 : fi Try.prog 18 = some ⟨31, [.tmp 2], code18⟩ := by kernel_rfl
-- name 19 (*chartulary/lot.Lots).Pick
noncomputable def code19 : Code := match Try.f19.body with
  | some c => c
  | none => .skip
theorem fi19 : fi Try.prog 19 = some ⟨11, [.tmp 4], code19⟩ := by kernel_rfl
-- name 20 (*chartulary/chartularyref05.Lots).Pick
noncomputable def code20 : Code := match Try.f20.body with
  | some c => c
  | none => .skip
theorem fi20 : fi Try.prog 20 = some ⟨11, [.tmp 4], code20⟩ := by kernel_rfl
-- name 21 (*chartulary/lot.Lots).Used
noncomputable def code21 : Code := match Try.f21.body with
  | some c => c
  | none => .skip
theorem fi21 : fi Try.prog 21 = some ⟨9, [.tmp 2], code21⟩ := by kernel_rfl
-- name 22 chartulary/chartularylaw05.fresh
noncomputable def code22 : Code := match Try.f22.body with
  | some c => c
  | none => .skip
theorem fi22 : fi Try.prog 22 = some ⟨13, [.tmp 2], code22⟩ := by kernel_rfl
-- name 23 slices.ContainsFunc[[]int,int]
noncomputable def code23 : Code := match Try.f23.body with
  | some c => c
  | none => .skip
theorem fi23 : fi Try.prog 23 = some ⟨9, [.tmp 4], code23⟩ := by kernel_rfl
-- name 24 chartulary/lot.New$1
noncomputable def code24 : Code := match Try.f24.body with
  | some c => c
  | none => .skip
theorem fi24 : fi Try.prog 24 = some ⟨5, [.tmp 2], code24⟩ := by kernel_rfl
-- name 25 slices.Clone[[]int,int]
noncomputable def code25 : Code := match Try.f25.body with
  | some c => c
  | none => .skip
theorem fi25 : fi Try.prog 25 = some ⟨8, [.tmp 2], code25⟩ := by kernel_rfl
-- name 26 (*chartulary/lot.Lots).none
noncomputable def code26 : Code := match Try.f26.body with
  | some c => c
  | none => .skip
theorem fi26 : fi Try.prog 26 = some ⟨12, [.tmp 2], code26⟩ := by kernel_rfl
-- name 27 slices.IndexFunc[[]int,int]
noncomputable def code27 : Code := match Try.f27.body with
  | some c => c
  | none => .skip
theorem fi27 : fi Try.prog 27 = some ⟨19, [.tmp 4], code27⟩ := by kernel_rfl
end Go.Proofs.Ytconldbakjfbhaa
