/-
  The symbolic machine: functions without a Go body.
-/
import Derived.Test.YtdanhpemheldlaaSy29
set_option linter.unusedSimpArgs false
set_option linter.unusedVariables false
namespace Go.SY
open Go

theorem extern_run {P : Program} {g : FuncId} {fn : Func} {e : Array Value → Sem Value} (hf : P.funcs[g]? = some fn) (hn : (fn.name == "runtime.NumGoroutine") = false) (hb : fn.body = none) (h1 : Extern.findNext fn = none) (h2 : Extern.find fn = some e) (args : Array Value) {w : World} {v : Value} (hr : (e args).run P w = .ok v w) :
    (callFunc g args).run P w = .ok (.value v) w := by
  have hn2 : ¬ fn.name = "runtime.NumGoroutine" := by simpa using hn
  have hm : ∀ m : Mark, (mark m).run P w = .ok () w := fun m => rfl
  unfold callFunc
  simp [Sem.run_bind, hf, hn, hn2, hb, h1, h2, hm, Result.andThen, hr]

/-- Words of functions without a body. -/
def extK (x : List AV → Option (Bool × AV)) (args : List AV) (bl : Bls) : Option (Bool × AV × Bls) := match x args with
  | some (vc, r) => some (vc, r, bl)
  | none => none

theorem extK_ok {P : Program} {g : FuncId} {x : List AV → Option (Bool × AV)} (h : ∀ args r, x args = some (true, r) → ∀ (β : Env) (w : World) (vs : List Value), DenL β args vs → ∃ y, Den β r y ∧ (callFunc g vs.toArray).run P w = .ok (.value y) w) : ExtOk P g (extK x) := by
  intro args bl r bl' hx
  unfold extK at hx
  split at hx
  · rename_i vc r' e
    simp only [Option.some.injEq, Prod.mk.injEq] at hx
    obtain ⟨rfl, rfl, rfl⟩ := hx
    exact ⟨rfl, fun β w vs _ => h args _ e β w vs⟩
  · cases hx

/-- Two tables, one ahead of the other. -/
def ktX (L : List (FuncId × (List AV → Option (Bool × AV)))) (K : KT) : KT := fun g => match L with
  | [] => K g
  | (k, x) :: r => if k = g then some (extK x) else ktX r K g

theorem ktX_ok {P : Program} {pl : FuncId → Nat → Option Plan} {K : KT} (hK : KOk P pl K) : ∀ {L : List (FuncId × (List AV → Option (Bool × AV)))}, (∀ x ∈ L, ExtOk P x.1 (extK x.2)) → KOk P pl (ktX L K)
  | [], _ => hK
  | (k, x) :: r, h => fun g c hc => by
    simp only [ktX] at hc
    split at hc
    · rename_i e
      subst e
      obtain rfl := Option.some.inj hc
      exact .inl (h (k, x) (by simp))
    · exact ktX_ok hK (fun y hy => h y (by simp [hy])) g c hc

/-- Where a byte stands first. -/
def idxB (s : ByteArray) (c : Int) : Int := match (List.range s.size).find? (fun i => s[i]! == c.toNat.toUInt8) with
  | some i => (i : Int)
  | none => -1

def xIndexByteString : List AV → Option (Bool × AV)
  | [.v (.string s), .v (.int .u8 c)] => some (true, .v (.int .i64 (idxB s c)))
  | _ => none

theorem idxB_ok {s : ByteArray} (h : s.size < 9223372036854775808) (c : Int) : inK .i64 (idxB s c) = true := by
  unfold idxB
  split
  · rename_i i e
    have := List.mem_range.1 (List.mem_of_find?_eq_some e)
    simp [inK]; omega
  · rfl

theorem indexByteString_ok {P : Program} {g : FuncId} {fn : Func} (hf : P.funcs[g]? = some fn) (hn : (fn.name == "runtime.NumGoroutine") = false) (hb : fn.body = none) (h1 : Extern.findNext fn = none) (h2 : Extern.find fn = some Extern.BytealgIndexByte.indexByte) : ExtOk P g (extK xIndexByteString) := by
  refine extK_ok fun args r hx β w vs hd => ?_
  unfold xIndexByteString at hx
  split at hx
  · rename_i s c
    simp only [Option.some.injEq, Prod.mk.injEq, true_and] at hx
    subst hx
    simp only [DenL, Den, wfV] at hd
    obtain ⟨y1, z1, rfl, ⟨rfl, -, hs⟩, y2, z2, rfl, ⟨rfl, -, hc⟩, rfl⟩ := hd
    refine ⟨.int .i64 (idxB s c), mk_int (idxB_ok hs c), extern_run hf hn hb h1 h2 _ ?_⟩
    show (Extern.BytealgIndexByte.indexByte #[.string s, .int .u8 c]).run P w = _
    have he : Extern.BytealgIndexByte.indexByte #[.string s, .int .u8 c] = (do
        let b ← Extern.Bytes.bytesOf (.string s)
        let c ← Extern.Bytes.asByte (.int .u8 c)
        match (List.range b.size).find? fun i => b[i]! == c with
        | some i => pure (goInt i)
        | none => pure (goInt (-1))) := rfl
    rw [he]
    simp only [Extern.Bytes.bytesOf, Extern.Bytes.asByte, Sem.run_bind, Sem.run_pure, Result.andThen_ok, idxB]
    split <;> rfl
  · cases hx

end Go.SY
