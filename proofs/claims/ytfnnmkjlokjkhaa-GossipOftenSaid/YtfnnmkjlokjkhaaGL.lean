/- Gossip: the plain law of buffers (a sorted queue beside a list in any order). -/
import Derived.Test.YtfnnmkjlokjkhaaSe
set_option linter.unusedSimpArgs false
set_option linter.unusedVariables false
namespace Go.Proofs.Ytfnnmkjlokjkhaa
namespace GS
structure Tl where
  id : Int
  st : Int
  inc : Int
  told : Int
def Tl.bump (t : Tl) : Tl := ⟨t.id, t.st, t.inc, t.told + 1⟩
def LessT (a b : Tl) : Prop := a.told < b.told ∨ (a.told = b.told ∧ a.id < b.id)
instance (a b : Tl) : Decidable (LessT a b) := by unfold LessT; infer_instance
theorem LessT.trans {a b c : Tl} (h : LessT a b) (k : LessT b c) : LessT a c := by unfold LessT at *; omega
theorem less_tri (a b : Tl) (h : a.id ≠ b.id) : LessT a b ∨ LessT b a := by unfold LessT; omega
theorem less_irr {a b : Tl} (h : LessT a b) (k : LessT b a) : False := by unfold LessT at *; omega
def putQ (x : Tl) : List Tl → List Tl
  | [] => [x]
  | y :: r => if LessT x y then x :: y :: r else y :: putQ x r
def putI (x : Tl) : List Tl → Nat → Int
  | [], _ => -1
  | y :: r, i => if LessT x y then (i : Int) else putI x r (i + 1)
theorem put_perm (x : Tl) : ∀ q : List Tl, (putQ x q).Perm (x :: q)
  | [] => .refl _
  | y :: r => by
    rw [putQ]
    split
    · exact .refl _
    · exact ((put_perm x r).cons y).trans (.swap x y r)
theorem put_sort {x : Tl} : ∀ {q : List Tl}, q.Pairwise LessT → (∀ y ∈ q, y.id ≠ x.id) → (putQ x q).Pairwise LessT
  | [], _, _ => List.pairwise_singleton _ _
  | y :: r, h, hn => by
    rw [List.pairwise_cons] at h
    rw [putQ]
    split
    · rename_i hl
      rw [List.pairwise_cons, List.pairwise_cons]
      refine ⟨fun z hz => ?_, h⟩
      rcases List.mem_cons.1 hz with rfl | hz
      · exact hl
      · exact hl.trans (h.1 z hz)
    · rename_i hl
      rw [List.pairwise_cons]
      refine ⟨fun z hz => ?_, put_sort h.2 fun y hy => hn y (List.mem_cons_of_mem _ hy)⟩
      rcases List.mem_cons.1 ((put_perm x r).mem_iff.1 hz) with rfl | hz
      · exact (less_tri y z (hn y List.mem_cons_self)).resolve_right hl
      · exact h.1 z hz
theorem put_at {x : Tl} : ∀ {q : List Tl} {i : Nat}, (putI x q i < 0 → putQ x q = q ++ [x]) ∧ (0 ≤ putI x q i → ∃ k : Nat, putI x q i = ((i + k : Nat) : Int) ∧ k ≤ q.length ∧ putQ x q = q.take k ++ x :: q.drop k)
  | [], i => ⟨fun _ => rfl, fun h => absurd h (by simp [putI])⟩
  | y :: r, i => by
    obtain ⟨h1, h2⟩ := put_at (x := x) (q := r) (i := i + 1)
    rw [putI, putQ]
    split
    · exact ⟨fun h => by omega, fun _ => ⟨0, rfl, Nat.zero_le _, rfl⟩⟩
    · refine ⟨fun h => by rw [h1 h, List.cons_append], fun h => ?_⟩
      obtain ⟨k, e1, e2, e3⟩ := h2 h
      exact ⟨k + 1, by rw [e1]; omega, Nat.succ_le_succ e2, by rw [e3, List.take_succ_cons, List.drop_succ_cons, List.cons_append]⟩
def idI (a : Int) : List Tl → Nat → Int
  | [], _ => -1
  | y :: r, i => if y.id = a then (i : Int) else idI a r (i + 1)
theorem id_at {a : Int} : ∀ {q : List Tl} {i : Nat}, (idI a q i < 0 → ∀ y ∈ q, y.id ≠ a) ∧ (0 ≤ idI a q i → ∃ k y, idI a q i = ((i + k : Nat) : Int) ∧ q[k]? = some y ∧ y.id = a)
  | [], i => ⟨fun _ y h => (nomatch h), fun h => absurd h (by simp [idI])⟩
  | y :: r, i => by
    obtain ⟨h1, h2⟩ := id_at (a := a) (q := r) (i := i + 1)
    rw [idI]
    split
    · rename_i e
      exact ⟨fun h => by omega, fun _ => ⟨0, y, rfl, rfl, e⟩⟩
    · rename_i e
      refine ⟨fun h z hz => ?_, fun h => ?_⟩
      · rcases List.mem_cons.1 hz with rfl | hz
        · exact e
        · exact h1 h z hz
      · obtain ⟨k, z, e1, e2, e3⟩ := h2 h
        exact ⟨k + 1, z, by rw [e1]; omega, e2, e3⟩
def firstF (but : List Int) : List Tl → Nat → Option (Nat × Tl) → Option (Nat × Tl)
  | [], _, o => o
  | y :: r, i, o => firstF but r (i + 1) (if y.id ∈ but then o else match o with
    | none => some (i, y)
    | some (j, z) => if LessT y z then some (i, y) else some (j, z))
theorem first_cons (but : List Int) (y : Tl) (r : List Tl) (i : Nat) (o : Option (Nat × Tl)) : firstF but (y :: r) i o = firstF but r (i + 1) (if y.id ∈ but then o else match o with
    | none => some (i, y)
    | some (j, z) => if LessT y z then some (i, y) else some (j, z)) := rfl
theorem first_ok {but : List Int} : ∀ {P : List Tl} {pre : List Tl} {o : Option (Nat × Tl)}, (∀ j z, o = some (j, z) → pre[j]? = some z ∧ z.id ∉ but ∧ ∀ y ∈ pre, y.id ∉ but → ¬ LessT y z) → (o = none → ∀ y ∈ pre, y.id ∈ but) →
    (∀ j z, firstF but P pre.length o = some (j, z) → (pre ++ P)[j]? = some z ∧ z.id ∉ but ∧ ∀ y ∈ pre ++ P, y.id ∉ but → ¬ LessT y z) ∧ (firstF but P pre.length o = none → ∀ y ∈ pre ++ P, y.id ∈ but)
  | [], pre, o, h1, h2 => by simp only [firstF, List.append_nil]; exact ⟨h1, h2⟩
  | y :: r, pre, o, h1, h2 => by
    rw [first_cons]
    have hl : pre.length + 1 = (pre ++ [y]).length := by simp
    rw [hl, show pre ++ y :: r = (pre ++ [y]) ++ r by simp]
    refine first_ok (fun j z e => ?_) (fun e => ?_)
    · split at e
      · rename_i hy
        obtain ⟨g1, g2, g3⟩ := h1 j z e
        refine ⟨by rw [List.getElem?_append_left (List.getElem?_eq_some_iff.1 g1).1]; exact g1, g2, fun u hu hn => ?_⟩
        rcases List.mem_append.1 hu with hu | hu
        · exact g3 u hu hn
        · rw [List.mem_singleton.1 hu] at hn; exact absurd hy hn
      · rename_i hy
        split at e
        · obtain ⟨rfl, rfl⟩ := Prod.mk.inj (Option.some.inj e)
          refine ⟨by simp, hy, fun u hu hn => ?_⟩
          rcases List.mem_append.1 hu with hu | hu
          · exact absurd (h2 rfl u hu) hn
          · rw [List.mem_singleton.1 hu]; exact fun k => less_irr k k
        · rename_i j0 z0
          obtain ⟨g1, g2, g3⟩ := h1 j0 z0 rfl
          split at e
          · rename_i hlt
            obtain ⟨rfl, rfl⟩ := Prod.mk.inj (Option.some.inj e)
            refine ⟨by simp, hy, fun u hu hn => ?_⟩
            rcases List.mem_append.1 hu with hu | hu
            · exact fun k => g3 u hu hn (k.trans hlt)
            · rw [List.mem_singleton.1 hu]; exact fun k => less_irr k k
          · rename_i hlt
            obtain ⟨rfl, rfl⟩ := Prod.mk.inj (Option.some.inj e)
            refine ⟨by rw [List.getElem?_append_left (List.getElem?_eq_some_iff.1 g1).1]; exact g1, g2, fun u hu hn => ?_⟩
            rcases List.mem_append.1 hu with hu | hu
            · exact g3 u hu hn
            · rw [List.mem_singleton.1 hu]; exact hlt
    · split at e
      · rename_i hy
        intro u hu
        rcases List.mem_append.1 hu with hu | hu
        · exact h2 e u hu
        · rw [List.mem_singleton.1 hu]; exact hy
      · split at e
        · cases e
        · split at e <;> cases e
theorem first_all {but : List Int} {P : List Tl} : (∀ j z, firstF but P 0 none = some (j, z) → P[j]? = some z ∧ z.id ∉ but ∧ ∀ y ∈ P, y.id ∉ but → ¬ LessT y z) ∧ (firstF but P 0 none = none → ∀ y ∈ P, y.id ∈ but) := by
  have := first_ok (but := but) (P := P) (pre := []) (o := none) (fun _ _ h => by cases h) (fun _ _ h => by cases h)
  simpa using this
def takeR (lim : Int) : Nat → List Tl → List Tl → List Tl × List Tl
  | 0, P, out => (out, P)
  | k + 1, P, out => match firstF (out.map (·.id)) P 0 none with
    | none => (out, P)
    | some (i, z) => takeR lim k (if lim ≤ z.told + 1 then P.eraseIdx i else P.set i z.bump) (out ++ [z])
def backQ (lim : Int) (acc : List Tl) (t : Tl) : List Tl := if t.told + 1 < lim then putQ t.bump acc else acc
def takeQ (lim : Int) (n : Nat) (q : List Tl) : List Tl × List Tl := (q.take n, (q.take n).foldl (backQ lim) (q.drop n))
def bumped (lim : Int) (l : List Tl) : List Tl := (l.map Tl.bump).filter fun t => decide (t.told < lim)
structure RelQ (q P : List Tl) : Prop where
  sort : q.Pairwise LessT
  perm : q.Perm P
  ids : (q.map (·.id)).Nodup
theorem bumped_app (lim : Int) (a b : List Tl) : bumped lim (a ++ b) = bumped lim a ++ bumped lim b := by simp [bumped]
theorem back_perm {lim : Int} : ∀ (l acc : List Tl), (l.foldl (backQ lim) acc).Perm (bumped lim l ++ acc)
  | [], _ => .refl _
  | t :: r, acc => by
    rw [List.foldl_cons]
    refine (back_perm r _).trans ?_
    rw [show t :: r = [t] ++ r from rfl, bumped_app, backQ]
    split
    · rename_i h
      have : bumped lim [t] = [t.bump] := by
        simp only [bumped, List.map_cons, List.map_nil, List.filter_cons, List.filter_nil, Tl.bump]
        rw [if_pos]
        simp; omega
      rw [this]
      exact ((put_perm t.bump acc).append_left _).trans List.perm_middle
    · rename_i h
      have : bumped lim [t] = [] := by
        simp only [bumped, List.map_cons, List.map_nil, List.filter_cons, List.filter_nil, Tl.bump]
        rw [if_neg]
        simp; omega
      rw [this]
      exact .refl _
theorem back_sort {lim : Int} : ∀ (l acc : List Tl), acc.Pairwise LessT → ((l ++ acc).map (·.id)).Nodup → (l.foldl (backQ lim) acc).Pairwise LessT
  | [], _, h, _ => h
  | t :: r, acc, h, hn => by
    rw [List.foldl_cons]
    rw [List.cons_append, List.map_cons, List.nodup_cons] at hn
    rw [backQ]
    split
    · refine back_sort r _ (put_sort h fun y hy e => hn.1 ?_) ?_
      · exact List.mem_map.2 ⟨y, List.mem_append_right _ hy, e⟩
      · have hp : ((r ++ putQ t.bump acc).map (·.id)).Perm (t.id :: (r ++ acc).map (·.id)) := by
          have h1 : (r ++ putQ t.bump acc).Perm (t.bump :: (r ++ acc)) := ((put_perm t.bump acc).append_left r).trans List.perm_middle
          exact h1.map _
        exact hp.nodup_iff.2 (List.nodup_cons.2 hn)
    · exact back_sort r _ h hn.2
def addR (ov : Tl → Tl → Bool) (w : Tl) (P : List Tl) : Bool × List Tl :=
  if idI w.id P 0 < 0 then (true, P ++ [w]) else match P[(idI w.id P 0).toNat]? with
  | some y => if ov w y then (true, P.eraseIdx (idI w.id P 0).toNat ++ [w]) else (false, P)
  | none => (false, P)
def addQ (ov : Tl → Tl → Bool) (w : Tl) (q : List Tl) : Bool × List Tl :=
  if idI w.id q 0 < 0 then (true, putQ w q) else match q[(idI w.id q 0).toNat]? with
  | some y => if ov w y then (true, putQ w (q.eraseIdx (idI w.id q 0).toNat)) else (false, q)
  | none => (false, q)
end GS
end Go.Proofs.Ytfnnmkjlokjkhaa
