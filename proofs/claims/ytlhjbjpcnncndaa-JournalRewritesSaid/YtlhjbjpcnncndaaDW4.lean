/- Disks: contracts. -/
import Derived.Test.YtlhjbjpcnncndaaDW3
set_option linter.unusedSimpArgs false
set_option linter.unusedVariables false
namespace Go.Proofs.Ytlhjbjpcnncndaa
open Go Go.SY
namespace DW
theorem layD_len3 (s : DS) : 3 ≤ (layD s).length := by simp [layD]
theorem layD_ok (s : DS) : okBls (layD s).length (layD s) = true := by
  obtain ⟨l, f, x, xf, room, n, u, out⟩ := s
  cases u <;> rfl
def osK (f : DS → AV × DS) : OSpec := fun args bl => match args with
  | [.ptr l 0 9 0] => (match findD bl l with
    | some (v1, σ, s) => some (v1 && numOk s, σ, [.ptr 0 0 9 0], layD s, (f s).1, layD (f s).2)
    | none => none)
  | _ => none
def osI (f : DS → Int → AV × DS) : OSpec := fun args bl => match args with
  | [.ptr l 0 9 0, .v (.int .i64 k)] => (match findD bl l with
    | some (v1, σ, s) => some (v1 && (numOk s && decide (k ≤ 9223372036854775807)), σ, [.ptr 0 0 9 0, .v (.int .i64 k)], layD s, (f s k).1, layD (f s k).2)
    | none => none)
  | _ => none
def osB (f : DS → List Int → AV × DS) : OSpec := fun args bl => match args with
  | [.ptr l 0 9 0, x] => (match findD bl l with
    | some (v1, σ, s) => (match lnd (killL σ bl) x with
      | some (v2, x') => (match nilN .u8 x' with
        | .imn t .u8 b c => some (v1 && (v2 && (numOk s && decide (b.length ≤ 1000000000))), σ, [.ptr 0 0 9 0, .imn t .u8 b c], layD s, (f s b).1, layD (f s b).2)
        | _ => none)
      | none => none)
    | none => none)
  | _ => none
theorem osK_ok {g : FuncId} {f : DS → AV × DS} (hf : ∀ s, ∃ x, (f s).1 = .v x) (h : ∀ s, numOk s = true → Word Try.prog (plOf pls) g [.ptr 0 0 9 0] (layD s) (ObQ 1 (f s).1 (layD (f s).2))) : ObjOk Try.prog (plOf pls) g 1 (osK f) := by
  intro args bl σ args0 bl0 r1 bl1 hs
  unfold osK at hs
  split at hs
  · rename_i l
    split at hs
    · rename_i v1 σ' s e
      simp only [Option.some.injEq, Prod.mk.injEq, Bool.and_eq_true] at hs
      obtain ⟨⟨rfl, h1⟩, rfl, rfl, rfl, rfl, rfl⟩ := hs
      obtain ⟨a1, a2, a3, a4, a5, a6⟩ := findD_ok e
      obtain ⟨y, hy⟩ := hf s
      refine ⟨h s h1, ⟨_, ⟨_, _, rfl, .inl ⟨by simp [ren, a6], by simp [lvB]; omega⟩, rfl⟩, fun _ _ h => h⟩, a1, a2, a3, a4, a5, by have := layD_len3 (f s).2; omega, by rw [hy]; rfl, layD_ok _⟩
    · cases hs
  · cases hs
theorem layD_some (s : DS) : ∀ (l : Nat) (x : Option Ct), (layD s)[l]? = some x → x ≠ none := by
  obtain ⟨l, f, x, xf, room, n, u, out⟩ := s
  intro j y h e
  subst e
  cases u with
  | none =>
    match j, h with
    | 0, h => cases h
    | 1, h => cases h
    | 2, h => cases h
    | j + 3, h => simp [layD, fuL] at h
  | some k =>
    match j, h with
    | 0, h => cases h
    | 1, h => cases h
    | 2, h => cases h
    | 3, h => cases h
    | j + 4, h => simp [layD, fuL] at h
def osR (f : DS → AV) (ex : DS → Bls) : OSpec := fun args bl => match args with
  | [.ptr l 0 9 0] => (match findD bl l with
    | some (v1, σ, s) => some (v1 && numOk s, σ, [.ptr 0 0 9 0], layD s, f s, ex s)
    | none => none)
  | _ => none
theorem osR_ok {g : FuncId} {f : DS → AV} {ex : DS → Bls} (h : ∀ s, numOk s = true → Word Try.prog (plOf pls) g [.ptr 0 0 9 0] (layD s) (ObQ (layD s).length (f s) (layD s ++ ex s))) (h1 : ∀ s, lvB (layD s ++ ex s).length false (f s) = true ∧ okBls (layD s ++ ex s).length (layD s ++ ex s) = true) : ReadOk Try.prog (plOf pls) g (osR f ex) := by
  intro args bl σ args0 bl0 r1 bl1 hs
  unfold osR at hs
  split at hs
  · rename_i l
    split at hs
    · rename_i v1 σ' s e
      simp only [Option.some.injEq, Prod.mk.injEq, Bool.and_eq_true] at hs
      obtain ⟨⟨rfl, h2⟩, rfl, rfl, rfl, rfl, rfl⟩ := hs
      obtain ⟨a1, a2, a3, a4, a5, a6⟩ := findD_ok e
      exact ⟨h s h2, ⟨_, ⟨_, _, rfl, .inl ⟨by simp [ren, a6], by simp [lvB]; omega⟩, rfl⟩, fun _ _ h => h⟩, a1, a2, a3, a4, layD_some s, layD_ok s, h1 s⟩
    · cases hs
  · cases hs
theorem num_ok (x : Value) (s : DS) : lvB (layD s ++ []).length false (.v x) = true ∧ okBls (layD s ++ []).length (layD s ++ []) = true := by
  rw [List.append_nil]
  exact ⟨rfl, layD_ok s⟩
theorem osI_ok {g : FuncId} {f : DS → Int → AV × DS} (hf : ∀ s k, ∃ x, (f s k).1 = .v x) (h : ∀ s k, numOk s = true → k ≤ 9223372036854775807 → Word Try.prog (plOf pls) g [.ptr 0 0 9 0, .v (.int .i64 k)] (layD s) (ObQ 1 (f s k).1 (layD (f s k).2))) : ObjOk Try.prog (plOf pls) g 1 (osI f) := by
  intro args bl σ args0 bl0 r1 bl1 hs
  unfold osI at hs
  split at hs
  · rename_i l k
    split at hs
    · rename_i v1 σ' s e
      simp only [Option.some.injEq, Prod.mk.injEq, Bool.and_eq_true, decide_eq_true_eq] at hs
      obtain ⟨⟨rfl, h1, h2⟩, rfl, rfl, rfl, rfl, rfl⟩ := hs
      obtain ⟨a1, a2, a3, a4, a5, a6⟩ := findD_ok e
      obtain ⟨y, hy⟩ := hf s k
      refine ⟨h s k h1 h2, ⟨_, ⟨_, _, rfl, .inl ⟨by simp [ren, a6], by simp [lvB]; omega⟩, _, _, rfl, .inl ⟨rfl, rfl⟩, rfl⟩, fun _ _ h => h⟩, a1, a2, a3, a4, a5, by have := layD_len3 (f s k).2; omega, by rw [hy]; rfl, layD_ok _⟩
    · cases hs
  · cases hs
theorem osB_ok {g : FuncId} {f : DS → List Int → AV × DS} (hf : ∀ s b, ∃ x, (f s b).1 = .v x) (h : ∀ s t b c, numOk s = true → b.length ≤ 1000000000 → Word Try.prog (plOf pls) g [.ptr 0 0 9 0, .imn t .u8 b c] (layD s) (ObQ 1 (f s b).1 (layD (f s b).2))) : ObjOk Try.prog (plOf pls) g 1 (osB f) := by
  intro args bl σ args0 bl0 r1 bl1 hs
  unfold osB at hs
  split at hs
  · rename_i l x
    split at hs
    · rename_i v1 σ' s e
      split at hs
      · rename_i v2 x' e2
        split at hs
        · rename_i t b c e3
          simp only [Option.some.injEq, Prod.mk.injEq, Bool.and_eq_true, decide_eq_true_eq] at hs
          obtain ⟨⟨rfl, rfl, h1, h2⟩, rfl, rfl, rfl, rfl, rfl⟩ := hs
          obtain ⟨a1, a2, a3, a4, a5, a6⟩ := findD_ok e
          obtain ⟨y, hy⟩ := hf s b
          refine ⟨h s t b c h1 h2, ⟨[.ptr 0 0 9 0, x'], ⟨_, _, rfl, .inl ⟨by simp [ren, a6], by simp [lvB]; omega⟩, _, _, rfl, .inr e2, rfl⟩, fun β vs hd => ?_⟩, a1, a2, a3, a4, a5, by have := layD_len3 (f s b).2; omega, by rw [hy]; rfl, layD_ok _⟩
          simp only [DenL] at hd ⊢
          obtain ⟨y0, zs, e4, h4, y1, zs1, e5, h5, h6⟩ := hd
          exact ⟨y0, zs, e4, h4, y1, zs1, e5, by have := nilN_den .u8 h5; rwa [e3] at this, h6⟩
        · cases hs
      · cases hs
    · cases hs
  · cases hs
def mApp (s : DS) (b : List Int) : AV × DS := (.v (.int .i64 (dLay false s b).1), (dLay false s b).2)
def mNext (s : DS) (b : List Int) : AV × DS := (.v (.int .i64 (dLay true s b).1), (dLay true s b).2)
def mSync (s : DS) : AV × DS := (.v (.int .i64 (dSync s).1), (dSync s).2)
def mSwitch (s : DS) : AV × DS := (.v (.int .i64 (dSwitch s).1), (dSwitch s).2)
def mFirm (s : DS) : AV := .v (.int .i64 s.f)
def mFuse (s : DS) (k : Int) : AV × DS := (.v (.int .i64 (dFuse s k).1), (dFuse s k).2)
def mCrash (s : DS) (k : Int) : AV × DS := (.v (.int .i64 (dCrash s k).1), (dCrash s k).2)
theorem read_sz (s : DS) : lvB (layD s ++ rdX s).length false (rdV s) = true ∧ okBls (layD s ++ rdX s).length (layD s ++ rdX s) = true := by
  obtain ⟨l, f, x, xf, room, n, u, out⟩ := s
  cases u <;> cases out <;> exact ⟨rfl, rfl⟩
def kDj (K : KT) : KT := ktO 26 1 (osB mApp) (ktO 32 1 (osB mNext) (ktO 28 1 (osK mSync) (ktO 33 1 (osK mSwitch) (ktW 35 (readK (osR mFirm fun _ => [])) (ktO 18 1 (osI mFuse) (ktO 22 1 (osI mCrash) (ktW 36 (readK (osR rdV rdX)) (ktW 38 (conK sNew) K))))))))
theorem kDj_ok {K : KT} (hK : KOk Try.prog (plOf pls) K) : KOk Try.prog (plOf pls) (kDj K) :=
  ktO_ok plsOk (ktO_ok plsOk (ktO_ok plsOk (ktO_ok plsOk (ktW_ok (ktO_ok plsOk (ktO_ok plsOk (ktW_ok (ktW_ok hK (specW_ok plsOk new_ok))
    (readK_ok plsOk ⟨_, fi36⟩ (osR_ok (fun s h1 => read_word s h1) read_sz)))
    ⟨_, fi22⟩ (osI_ok (fun _ _ => ⟨_, rfl⟩) fun s k h1 h2 => crash_word s k h1 h2))
    ⟨_, fi18⟩ (osI_ok (fun _ _ => ⟨_, rfl⟩) fun s k h1 h2 => fuse_word s k h1))
    (readK_ok plsOk ⟨_, fi35⟩ (osR_ok (fun s h1 => firm_word s h1) fun s => num_ok _ s)))
    ⟨_, fi33⟩ (osK_ok (fun _ => ⟨_, rfl⟩) fun s h1 => switch_word s h1))
    ⟨_, fi28⟩ (osK_ok (fun _ => ⟨_, rfl⟩) fun s h1 => sync_word s h1))
    ⟨_, fi32⟩ (osB_ok (fun _ _ => ⟨_, rfl⟩) fun s t b c h1 h2 => next_word s t b c h1 h2))
    ⟨_, fi26⟩ (osB_ok (fun _ _ => ⟨_, rfl⟩) fun s t b c h1 h2 => app_word s t b c h1 h2)
end DW
end Go.Proofs.Ytlhjbjpcnncndaa
