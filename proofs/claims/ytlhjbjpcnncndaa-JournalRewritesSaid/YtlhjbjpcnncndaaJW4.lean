/- Journals: contracts. -/
import Derived.Test.YtlhjbjpcnncndaaJW3
set_option linter.unusedSimpArgs false
set_option linter.unusedVariables false
namespace Go.Proofs.Ytlhjbjpcnncndaa
open Go Go.SY
namespace JW
open DW
theorem layJ_ok (s : DS) (rs : List (List AV)) (h : FlatR rs) : okBls (layJ s rs).length (layJ s rs) = true := by
  obtain ⟨l, f, x, xf, room, n, u, out⟩ := s
  cases u <;> (simp [layJ, fuL, fu5, okBls, lvCt, lvB, h.lv, lvE]; and_intros <;> rfl)
theorem layJ_len5 (s : DS) (rs : List (List AV)) : 5 ≤ (layJ s rs).length := by simp [layJ]
def findJ (bl : Bls) (l : Nat) : Option (Bool × List Nat × DS × List (List AV)) := match lvl bl l with
  | some (.lit [.ptr ld 0 9 0, .sl lr 0 1 nr none]) => (match lvl bl ld with
    | some (.lit [.sl l1 0 1 n1 none, .v (.int .i64 f), .sl l2 0 1 n2 none, .v (.int .i64 xf), .v (.int .i64 room), .v (.int .i64 n), fu, .v (.bool out), .v (.bool true)]) => (match lvl bl lr with
      | some (.rows 1 rs) => (match lvl bl l1 with
        | some (.num .u8 xs) => (match lvl bl l2 with
          | some (.num .u8 ys) => (match fu with
            | .v (.pointer none) => some (decide (rs.length = nr) && (decide (xs.length = n1) && (decide (ys.length = n2) && (rs.all isB && decide [l, ld, lr, l1, l2].Nodup))), [l, ld, lr, l1, l2], ⟨xs, f, ys, xf, room, n, none, out⟩, rs)
            | .ptr l3 0 1 0 => (match lvl bl l3 with
              | some (.lit [.v (.int .i64 k)]) => some (decide (rs.length = nr) && (decide (xs.length = n1) && (decide (ys.length = n2) && (rs.all isB && decide [l, ld, lr, l1, l2, l3].Nodup))), [l, ld, lr, l1, l2, l3], ⟨xs, f, ys, xf, room, n, some k, out⟩, rs)
              | _ => none)
            | _ => none)
          | _ => none)
        | _ => none)
      | _ => none)
    | _ => none)
  | _ => none
theorem findJ_ok {bl : Bls} {l : Nat} {σ : List Nat} {s : DS} {rs : List (List AV)} (h : findJ bl l = some (true, σ, s, rs)) : σ.Nodup ∧ (σ.all fun l => decide (l < bl.length)) = true ∧ σ.length = (layJ s rs).length ∧ FitB (nm σ) σ.length bl 0 (layJ s rs) ∧ 2 ≤ σ.length ∧ nm σ 0 = l ∧ rs.all isB = true := by
  unfold findJ at h
  split at h
  · rename_i ld lr nr e0
    split at h
    · rename_i l1 n1 f l2 n2 xf room n fu out e1
      split at h
      · rename_i rs' e2
        split at h
        · rename_i xs e3
          split at h
          · rename_i ys e4
            have := lvl_lt e0; have := lvl_lt e1; have := lvl_lt e2; have := lvl_lt e3; have := lvl_lt e4
            split at h
            · simp only [Option.some.injEq, Prod.mk.injEq, Bool.and_eq_true, decide_eq_true_eq] at h
              obtain ⟨⟨rfl, rfl, rfl, h1, h3⟩, rfl, rfl, rfl⟩ := h
              have hf := isB_flat h1
              refine ⟨h3, ?_, rfl, ⟨⟨e0, rfl⟩, ⟨e1, rfl⟩, ⟨by simp only [renCt, hf.ren]; exact e2, by simp only [lvCt, hf.lv]⟩, ⟨e3, rfl⟩, ⟨e4, rfl⟩, trivial⟩, by simp, rfl, h1⟩
              simp only [List.all_cons, List.all_nil, Bool.and_true, Bool.and_eq_true, decide_eq_true_eq]
              exact ⟨by assumption, by assumption, by assumption, by assumption, by assumption⟩
            · rename_i l3
              split at h
              · rename_i k e5
                have := lvl_lt e5
                simp only [Option.some.injEq, Prod.mk.injEq, Bool.and_eq_true, decide_eq_true_eq] at h
                obtain ⟨⟨rfl, rfl, rfl, h1, h3⟩, rfl, rfl, rfl⟩ := h
                have hf := isB_flat h1
                refine ⟨h3, ?_, rfl, ⟨⟨e0, rfl⟩, ⟨e1, rfl⟩, ⟨by simp only [renCt, hf.ren]; exact e2, by simp only [lvCt, hf.lv]⟩, ⟨e3, rfl⟩, ⟨e4, rfl⟩, ⟨e5, rfl⟩, trivial⟩, by simp, rfl, h1⟩
                simp only [List.all_cons, List.all_nil, Bool.and_true, Bool.and_eq_true, decide_eq_true_eq]
                exact ⟨by assumption, by assumption, by assumption, by assumption, by assumption, by assumption⟩
              · cases h
            · cases h
          · cases h
        · cases h
      · cases h
    · cases h
  · cases h
def numJ (s : DS) (rs : List (List AV)) : Bool := numOk s && (decide (s.n < 4611686018427387900) && (decide (s.l.length + s.x.length ≤ 1000000000) && (decide (rs.length ≤ 1000000000) && (bys rs).all fun y => decide (y.length ≤ 1000000))))
theorem numJ_at {s : DS} {rs : List (List AV)} (h : numJ s rs = true) : numOk s = true ∧ s.n < 4611686018427387900 ∧ s.l.length + s.x.length ≤ 1000000000 ∧ rs.length ≤ 1000000000 ∧ ∀ y ∈ bys rs, y.length ≤ 1000000 := by
  simp only [numJ, Bool.and_eq_true, decide_eq_true_eq, List.all_eq_true] at h
  exact h
def osJs (f : DS → AV × DS) : OSpec := fun args bl => match args with
  | [.ptr l 0 2 0] => (match findJ bl l with
    | some (v1, σ, s, rs) => some (v1 && numJ s rs, σ, [.ptr 0 0 2 0], layJ s rs, (f s).1, layJ (f s).2 rs)
    | none => none)
  | _ => none
theorem osJs_ok : ObjOk Try.prog (plOf pls) 9 2 (osJs mSync) := by
  intro args bl σ args0 bl0 r1 bl1 hs
  unfold osJs at hs
  split at hs
  · rename_i l
    split at hs
    · rename_i v1 σ' s rs e
      simp only [Option.some.injEq, Prod.mk.injEq, Bool.and_eq_true] at hs
      obtain ⟨⟨rfl, h1⟩, rfl, rfl, rfl, rfl, rfl⟩ := hs
      obtain ⟨a1, a2, a3, a4, a5, a6, a7⟩ := findJ_ok e
      obtain ⟨b1, b2, b3, b4, b5⟩ := numJ_at h1
      exact ⟨jsync_word s rs b1 a7, ⟨_, ⟨_, _, rfl, .inl ⟨by simp [ren, a6], by simp [lvB]; omega⟩, rfl⟩, fun _ _ h => h⟩, a1, a2, a3, a4, a5, by have := layJ_len5 (dSync s).2 rs; simp only [mSync]; omega, rfl, layJ_ok _ _ (isB_flat a7)⟩
    · cases hs
  · cases hs
def osJa : OSpec := fun args bl => match args with
  | [.ptr l 0 2 0, x] => (match findJ bl l with
    | some (v1, σ, s, rs) => (match lnd (killL σ bl) x with
      | some (v2, x') => (match nilN .u8 x' with
        | .imn t .u8 b c => some (v1 && (v2 && numJ s rs), σ, [.ptr 0 0 2 0, .imn t .u8 b c], layJ s rs, .v (.int .i64 (jApp s rs b).1), layJ (jApp s rs b).2.1 (jApp s rs b).2.2)
        | _ => none)
      | none => none)
    | none => none)
  | _ => none
theorem jApp_isB {s : DS} {rs : List (List AV)} {b : List Int} (h : rs.all isB = true) : (jApp s rs b).2.2.all isB = true := by
  unfold jApp
  split
  · exact h
  · split
    · simp only
      split
      · rw [List.all_append, h]; rfl
      · exact h
    · exact h
theorem osJa_ok : ObjOk Try.prog (plOf pls) 8 2 osJa := by
  intro args bl σ args0 bl0 r1 bl1 hs
  unfold osJa at hs
  split at hs
  · rename_i l x
    split at hs
    · rename_i v1 σ' s rs e
      split at hs
      · rename_i v2 x' e2
        split at hs
        · rename_i t b c e3
          simp only [Option.some.injEq, Prod.mk.injEq, Bool.and_eq_true] at hs
          obtain ⟨⟨rfl, rfl, h1⟩, rfl, rfl, rfl, rfl, rfl⟩ := hs
          obtain ⟨a1, a2, a3, a4, a5, a6, a7⟩ := findJ_ok e
          obtain ⟨b1, b2, b3, b4, b5⟩ := numJ_at h1
          refine ⟨japp_word s rs t b c b1 a7 b4, ⟨[.ptr 0 0 2 0, x'], ⟨_, _, rfl, .inl ⟨by simp [ren, a6], by simp [lvB]; omega⟩, _, _, rfl, .inr e2, rfl⟩, fun β vs hd => ?_⟩, a1, a2, a3, a4, a5, by have := layJ_len5 (jApp s rs b).2.1 (jApp s rs b).2.2; omega, rfl, layJ_ok _ _ (isB_flat (jApp_isB a7))⟩
          simp only [DenL] at hd ⊢
          obtain ⟨y0, zs, e4, h4, y1, zs1, e5, h5, h6⟩ := hd
          exact ⟨y0, zs, e4, h4, y1, zs1, e5, by have := nilN_den .u8 h5; rwa [e3] at this, h6⟩
        · cases hs
      · cases hs
    · cases hs
  · cases hs
theorem jRw_isB {s : DS} {rs ls : List (List AV)} (h : rs.all isB = true) : (jRw s rs ls).2.2.all isB = true := by
  unfold jRw
  split
  · split
    · split
      · exact rwN_all _
      · exact h
    · exact h
  · exact h
def osJw : OSpec := fun args bl => match args with
  | [.ptr l 0 2 0, x] => (match findJ bl l with
    | some (v1, σ, s, rs) => (match lnd (killL σ bl) x with
      | some (v2, x') => (match nilR 1 x' with
        | .imr t 1 ls c => some (v1 && (v2 && (numJ s rs && (ls.all isB && (decide (ls.length ≤ 1000000000) && (decide ((jn (bys ls)).length ≤ 1000000000) && (bys ls).all fun y => decide (y.length ≤ 1000000)))))), σ, [.ptr 0 0 2 0, .imr t 1 ls c], layJ s rs, .v (.int .i64 (jRw s rs ls).1), layJ (jRw s rs ls).2.1 (jRw s rs ls).2.2)
        | _ => none)
      | none => none)
    | none => none)
  | _ => none
theorem jrw_A {s : DS} {rs ls : List (List AV)} (t : Bool) (c : Option Nat) (h1 : numJ s rs = true) (hr : rs.all isB = true) (hm : ls.all isB = true) (hln : ls.length ≤ 1000000000) (hlb : ∀ y ∈ bys ls, y.length ≤ 1000000) (hjl : (jn (bys ls)).length ≤ 1000000000) : Word Try.prog (plOf pls) 10 [.ptr 0 0 2 0, .imr t 1 ls c] (layJ s rs) (ObQ 2 (.v (.int .i64 (jRw s rs ls).1)) (layJ (jRw s rs ls).2.1 (jRw s rs ls).2.2)) := by
  obtain ⟨b1, b2, b3, b4, b5⟩ := numJ_at h1
  obtain ⟨l, f, x, xf, room, n, u, out⟩ := s
  cases u with
  | none => exact jrw_An l f x xf room n out rs t ls c b1 b2 b3 hr b4 hm hln hlb hjl
  | some w => exact jrw_As l f x xf room n w out rs t ls c b1 b2 b3 hr b4 hm hln hlb hjl
theorem jrw_B {s : DS} {rs : List (List AV)} (h1 : numJ s rs = true) (hr : rs.all isB = true) (hjl : (jn (bys rs)).length ≤ 1000000000) (hj : jErr (bys rs) = 0) : Word Try.prog (plOf pls) 10 [.ptr 0 0 2 0, .sl 2 0 1 rs.length none] (layJ s rs) (ObQ 2 (.v (.int .i64 (jRw s rs rs).1)) (layJ (jRw s rs rs).2.1 (jRw s rs rs).2.2)) := by
  obtain ⟨b1, b2, b3, b4, b5⟩ := numJ_at h1
  obtain ⟨l, f, x, xf, room, n, u, out⟩ := s
  cases u with
  | none => exact jrw_Bn l f x xf room n out rs b1 b2 b3 hr b4 b5 hjl hj
  | some w => exact jrw_Bs l f x xf room n w out rs b1 b2 b3 hr b4 b5 hjl hj
theorem osJw_ok : ObjOk Try.prog (plOf pls) 10 2 osJw := by
  intro args bl σ args0 bl0 r1 bl1 hs
  unfold osJw at hs
  split at hs
  · rename_i l x
    split at hs
    · rename_i v1 σ' s rs e
      split at hs
      · rename_i v2 x' e2
        split at hs
        · rename_i t ls c e3
          simp only [Option.some.injEq, Prod.mk.injEq, Bool.and_eq_true, decide_eq_true_eq, List.all_eq_true] at hs
          obtain ⟨⟨rfl, rfl, h1, h2, h3, h4, h5⟩, rfl, rfl, rfl, rfl, rfl⟩ := hs
          obtain ⟨a1, a2, a3, a4, a5, a6, a7⟩ := findJ_ok e
          refine ⟨jrw_A t c h1 a7 (List.all_eq_true.2 h2) h3 h5 h4, ⟨[.ptr 0 0 2 0, x'], ⟨_, _, rfl, .inl ⟨by simp [ren, a6], by simp [lvB]; omega⟩, _, _, rfl, .inr e2, rfl⟩, fun β vs hd => ?_⟩, a1, a2, a3, a4, a5, by have := layJ_len5 (jRw s rs ls).2.1 (jRw s rs ls).2.2; omega, rfl, layJ_ok _ _ (isB_flat (jRw_isB a7))⟩
          simp only [DenL] at hd ⊢
          obtain ⟨y0, zs, e4, h4, y1, zs1, e5, h5, h6⟩ := hd
          exact ⟨y0, zs, e4, h4, y1, zs1, e5, by have := nilR_den 1 h5; rwa [e3] at this, h6⟩
        · cases hs
      · cases hs
    · cases hs
  · cases hs
def osJo : OSpec := fun args bl => match args with
  | [.ptr l 0 2 0, .sl lr 0 1 nr none] => (match findJ bl l with
    | some (v1, σ, s, rs) => some (v1 && (decide (nr = rs.length) && (decide (nm σ 2 = lr) && (numJ s rs && (decide ((jn (bys rs)).length ≤ 1000000000) && decide (jErr (bys rs) = 0))))), σ, [.ptr 0 0 2 0, .sl 2 0 1 rs.length none], layJ s rs, .v (.int .i64 (jRw s rs rs).1), layJ (jRw s rs rs).2.1 (jRw s rs rs).2.2)
    | none => none)
  | _ => none
theorem osJo_ok : ObjOk Try.prog (plOf pls) 10 2 osJo := by
  intro args bl σ args0 bl0 r1 bl1 hs
  unfold osJo at hs
  split at hs
  · rename_i l lr nr
    split at hs
    · rename_i v1 σ' s rs e
      simp only [Option.some.injEq, Prod.mk.injEq, Bool.and_eq_true, decide_eq_true_eq] at hs
      obtain ⟨⟨rfl, rfl, hlr, h1, h2, h3⟩, rfl, rfl, rfl, rfl, rfl⟩ := hs
      obtain ⟨a1, a2, a3, a4, a5, a6, a7⟩ := findJ_ok e
      have := layJ_len5 s rs
      exact ⟨jrw_B h1 a7 h2 h3, ⟨_, ⟨_, _, rfl, .inl ⟨by simp [ren, a6], by simp [lvB]; omega⟩, _, _, rfl, .inl ⟨by simp [ren, hlr], by simp [lvB]; omega⟩, rfl⟩, fun _ _ h => h⟩, a1, a2, a3, a4, a5, by have := layJ_len5 (jRw s rs rs).2.1 (jRw s rs rs).2.2; omega, rfl, layJ_ok _ _ (isB_flat (jRw_isB a7))⟩
    · cases hs
  · cases hs
theorem layJ_some (s : DS) (rs : List (List AV)) : ∀ (l : Nat) (x : Option Ct), (layJ s rs)[l]? = some x → x ≠ none := by
  obtain ⟨l, f, x, xf, room, n, u, out⟩ := s
  intro j y h e
  subst e
  cases u with
  | none =>
    match j, h with
    | 0, h => cases h
    | 1, h => cases h
    | 2, h => cases h
    | 3, h => cases h
    | 4, h => cases h
    | j + 5, h => simp [layJ, fuL] at h
  | some k =>
    match j, h with
    | 0, h => cases h
    | 1, h => cases h
    | 2, h => cases h
    | 3, h => cases h
    | 4, h => cases h
    | 5, h => cases h
    | j + 6, h => simp [layJ, fuL] at h
def osJr (f : DS → List (List AV) → AV) (ex : DS → List (List AV) → Bls) : OSpec := fun args bl => match args with
  | [.ptr l 0 2 0] => (match findJ bl l with
    | some (v1, σ, s, rs) => some (v1 && numJ s rs, σ, [.ptr 0 0 2 0], layJ s rs, f s rs, ex s rs)
    | none => none)
  | _ => none
theorem osJr_ok {g : FuncId} {f : DS → List (List AV) → AV} {ex : DS → List (List AV) → Bls} (h : ∀ s rs, numJ s rs = true → rs.all isB = true → Word Try.prog (plOf pls) g [.ptr 0 0 2 0] (layJ s rs) (ObQ (layJ s rs).length (f s rs) (layJ s rs ++ ex s rs))) (h1 : ∀ s rs, rs.all isB = true → lvB (layJ s rs ++ ex s rs).length false (f s rs) = true ∧ okBls (layJ s rs ++ ex s rs).length (layJ s rs ++ ex s rs) = true) : ReadOk Try.prog (plOf pls) g (osJr f ex) := by
  intro args bl σ args0 bl0 r1 bl1 hs
  unfold osJr at hs
  split at hs
  · rename_i l
    split at hs
    · rename_i v1 σ' s rs e
      simp only [Option.some.injEq, Prod.mk.injEq, Bool.and_eq_true] at hs
      obtain ⟨⟨rfl, h2⟩, rfl, rfl, rfl, rfl, rfl⟩ := hs
      obtain ⟨a1, a2, a3, a4, a5, a6, a7⟩ := findJ_ok e
      exact ⟨h s rs h2 a7, ⟨_, ⟨_, _, rfl, .inl ⟨by simp [ren, a6], by simp [lvB]; omega⟩, rfl⟩, fun _ _ h => h⟩, a1, a2, a3, a4, layJ_some s rs, layJ_ok s rs (isB_flat a7), h1 s rs a7⟩
    · cases hs
  · cases hs
def jLen (_ : DS) (rs : List (List AV)) : AV := .v (.int .i64 rs.length)
def jFirm (s : DS) (rs : List (List AV)) : AV := .v (.int .i64 (fmN s.f 0 (bys rs) : Nat))
def jAll (s : DS) (rs : List (List AV)) : AV := .sl (layJ s rs).length 0 1 rs.length none
def jAllX (_ : DS) (rs : List (List AV)) : Bls := [some (.rows 1 ((bys rs).map rwN))]
theorem jnum_ok (x : Value) (s : DS) (rs : List (List AV)) (h : rs.all isB = true) : lvB (layJ s rs ++ []).length false (.v x) = true ∧ okBls (layJ s rs ++ []).length (layJ s rs ++ []) = true := by
  rw [List.append_nil]
  exact ⟨rfl, layJ_ok s rs (isB_flat h)⟩
theorem jall_sz (s : DS) (rs : List (List AV)) (h : rs.all isB = true) : lvB (layJ s rs ++ jAllX s rs).length false (jAll s rs) = true ∧ okBls (layJ s rs ++ jAllX s rs).length (layJ s rs ++ jAllX s rs) = true := by
  have hf := isB_flat h
  have hg := isB_flat (rwN_all (bys rs))
  obtain ⟨l, f, x, xf, room, n, u, out⟩ := s
  cases u <;> exact ⟨by simp [jAll, jAllX, lvB, layJ, fuL], by simp [jAllX, layJ, fuL, fu5, okBls, lvCt, lvB, hf.lv, hg.lv, lvE]; and_intros <;> rfl⟩
theorem jlen_word {s : DS} {rs : List (List AV)} (h1 : numJ s rs = true) (hr : rs.all isB = true) : Word Try.prog (plOf pls) 12 [.ptr 0 0 2 0] (layJ s rs) (ObQ (layJ s rs).length (jLen s rs) (layJ s rs ++ [])) := by
  obtain ⟨b1, b2, b3, b4, b5⟩ := numJ_at h1
  obtain ⟨l, f, x, xf, room, n, u, out⟩ := s
  cases u with
  | none => exact jlen_n l f x xf room n out rs b1 hr b4 b5
  | some w => exact jlen_s l f x xf room n w out rs b1 hr b4 b5
theorem jfirm_word {s : DS} {rs : List (List AV)} (h1 : numJ s rs = true) (hr : rs.all isB = true) : Word Try.prog (plOf pls) 13 [.ptr 0 0 2 0] (layJ s rs) (ObQ (layJ s rs).length (jFirm s rs) (layJ s rs ++ [])) := by
  obtain ⟨b1, b2, b3, b4, b5⟩ := numJ_at h1
  obtain ⟨l, f, x, xf, room, n, u, out⟩ := s
  cases u with
  | none => exact jfirm_n l f x xf room n out rs b1 hr b4 b5
  | some w => exact jfirm_s l f x xf room n w out rs b1 hr b4 b5
theorem jall_word {s : DS} {rs : List (List AV)} (h1 : numJ s rs = true) (hr : rs.all isB = true) : Word Try.prog (plOf pls) 11 [.ptr 0 0 2 0] (layJ s rs) (ObQ (layJ s rs).length (jAll s rs) (layJ s rs ++ jAllX s rs)) := by
  obtain ⟨b1, b2, b3, b4, b5⟩ := numJ_at h1
  obtain ⟨l, f, x, xf, room, n, u, out⟩ := s
  cases u with
  | none => exact jall_n l f x xf room n out rs b1 hr b4 b5
  | some w => exact jall_s l f x xf room n w out rs b1 hr b4 b5
def kJo (K : KT) : KT := ktO 10 2 osJo K
theorem kJo_ok {K : KT} (hK : KOk Try.prog (plOf pls) K) : KOk Try.prog (plOf pls) (kJo K) := ktO_ok plsOk hK ⟨_, fi10⟩ osJo_ok
def kJ (K : KT) : KT := ktO 8 2 osJa (ktO 9 2 (osJs mSync) (ktO 10 2 osJw (ktW 12 (readK (osJr jLen fun _ _ => [])) (ktW 13 (readK (osJr jFirm fun _ _ => [])) (ktW 11 (readK (osJr jAll jAllX)) K)))))
theorem kJ_ok {K : KT} (hK : KOk Try.prog (plOf pls) K) : KOk Try.prog (plOf pls) (kJ K) :=
  ktO_ok plsOk (ktO_ok plsOk (ktO_ok plsOk (ktW_ok (ktW_ok (ktW_ok hK
    (readK_ok plsOk ⟨_, fi11⟩ (osJr_ok (fun _ _ h1 h2 => jall_word h1 h2) jall_sz)))
    (readK_ok plsOk ⟨_, fi13⟩ (osJr_ok (fun _ _ h1 h2 => jfirm_word h1 h2) fun s rs h => jnum_ok _ s rs h)))
    (readK_ok plsOk ⟨_, fi12⟩ (osJr_ok (fun _ _ h1 h2 => jlen_word h1 h2) fun s rs h => jnum_ok _ s rs h)))
    ⟨_, fi10⟩ osJw_ok)
    ⟨_, fi9⟩ osJs_ok)
    ⟨_, fi8⟩ osJa_ok
end JW
end Go.Proofs.Ytlhjbjpcnncndaa
