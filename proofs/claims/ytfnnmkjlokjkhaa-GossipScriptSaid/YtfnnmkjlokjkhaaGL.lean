/- Gossip: the plain law of buffers (a sorted queue beside a list in any order). -/
import Derived.Test.YtfnnmkjlokjkhaaSe
set_option linter.unusedSimpArgs false
set_option linter.unusedVariables false
namespace Go.Proofs.Ytfnnmkjlokjkhaa
namespace GS
structure Tl where
  id : Int
  st : Int
  inc : Int
  told : Int
def Tl.bump (t : Tl) : Tl := ⟨t.id, t.st, t.inc, t.told + 1⟩
def LessT (a b : Tl) : Prop := a.told < b.told ∨ (a.told = b.told ∧ a.id < b.id)
instance (a b : Tl) : Decidable (LessT a b) := by unfold LessT; infer_instance
theorem LessT.trans {a b c : Tl} (h : LessT a b) (k : LessT b c) : LessT a c := by unfold LessT at *; omega
theorem less_tri (a b : Tl) (h : a.id ≠ b.id) : LessT a b ∨ LessT b a := by unfold LessT; omega
theorem less_irr {a b : Tl} (h : LessT a b) (k : LessT b a) : False := by unfold LessT at *; omega
def putQ (x : Tl) : List Tl → List Tl
  | [] => [x]
  | y :: r => if LessT x y then x :: y :: r else y :: putQ x r
def putI (x : Tl) : List Tl → Nat → Int
  | [], _ => -1
  | y :: r, i => if LessT x y then (i : Int) else putI x r (i + 1)
theorem put_perm (x : Tl) : ∀ q : List Tl, (putQ x q).Perm (x :: q)
  | [] => .refl _
  | y :: r => by
    rw [putQ]
    split
    · exact .refl _
    · exact ((put_perm x r).cons y).trans (.swap x y r)
theorem put_sort {x : Tl} : ∀ {q : List Tl}, q.Pairwise LessT → (∀ y ∈ q, y.id ≠ x.id) → (putQ x q).Pairwise LessT
  | [], _, _ => List.pairwise_singleton _ _
  | y :: r, h, hn => by
    rw [List.pairwise_cons] at h
    rw [putQ]
    split
    · rename_i hl
      rw [List.pairwise_cons, List.pairwise_cons]
      refine ⟨fun z hz => ?_, h⟩
      rcases List.mem_cons.1 hz with rfl | hz
      · exact hl
      · exact hl.trans (h.1 z hz)
    · rename_i hl
      rw [List.pairwise_cons]
      refine ⟨fun z hz => ?_, put_sort h.2 fun y hy => hn y (List.mem_cons_of_mem _ hy)⟩
      rcases List.mem_cons.1 ((put_perm x r).mem_iff.1 hz) with rfl | hz
      · exact (less_tri y z (hn y List.mem_cons_self)).resolve_right hl
      · exact h.1 z hz
theorem put_at {x : Tl} : ∀ {q : List Tl} {i : Nat}, (putI x q i < 0 → putQ x q = q ++ [x]) ∧ (0 ≤ putI x q i → ∃ k : Nat, putI x q i = ((i + k : Nat) : Int) ∧ k ≤ q.length ∧ putQ x q = q.take k ++ x :: q.drop k)
  | [], i => ⟨fun _ => rfl, fun h => absurd h (by simp [putI])⟩
  | y :: r, i => by
    obtain ⟨h1, h2⟩ := put_at (x := x) (q := r) (i := i + 1)
    rw [putI, putQ]
    split
    · exact ⟨fun h => by omega, fun _ => ⟨0, rfl, Nat.zero_le _, rfl⟩⟩
    · refine ⟨fun h => by rw [h1 h, List.cons_append], fun h => ?_⟩
      obtain ⟨k, e1, e2, e3⟩ := h2 h
      exact ⟨k + 1, by rw [e1]; omega, Nat.succ_le_succ e2, by rw [e3, List.take_succ_cons, List.drop_succ_cons, List.cons_append]⟩
def idI (a : Int) : List Tl → Nat → Int
  | [], _ => -1
  | y :: r, i => if y.id = a then (i : Int) else idI a r (i + 1)
theorem id_at {a : Int} : ∀ {q : List Tl} {i : Nat}, (idI a q i < 0 → ∀ y ∈ q, y.id ≠ a) ∧ (0 ≤ idI a q i → ∃ k y, idI a q i = ((i + k : Nat) : Int) ∧ q[k]? = some y ∧ y.id = a)
  | [], i => ⟨fun _ y h => (nomatch h), fun h => absurd h (by simp [idI])⟩
  | y :: r, i => by
    obtain ⟨h1, h2⟩ := id_at (a := a) (q := r) (i := i + 1)
    rw [idI]
    split
    · rename_i e
      exact ⟨fun h => by omega, fun _ => ⟨0, y, rfl, rfl, e⟩⟩
    · rename_i e
      refine ⟨fun h z hz => ?_, fun h => ?_⟩
      · rcases List.mem_cons.1 hz with rfl | hz
        · exact e
        · exact h1 h z hz
      · obtain ⟨k, z, e1, e2, e3⟩ := h2 h
        exact ⟨k + 1, z, by rw [e1]; omega, e2, e3⟩
theorem erase_perm {α : Type} : ∀ {P : List α} {i : Nat} (h : i < P.length), P.Perm (P[i] :: P.eraseIdx i)
  | [], _, h => by simp at h
  | x :: r, 0, _ => .refl _
  | x :: r, i + 1, h => ((erase_perm (P := r) (i := i) (by simpa using h)).cons x).trans (.swap _ _ _)
theorem set_perm {α : Type} (z : α) : ∀ {P : List α} {i : Nat} (_ : i < P.length), (P.set i z).Perm (z :: P.eraseIdx i)
  | [], i, h => by simp at h
  | x :: r, 0, _ => .refl _
  | x :: r, i + 1, h => ((set_perm z (P := r) (i := i) (by simpa using h)).cons x).trans (.swap _ _ _)
def firstF (but : List Int) : List Tl → Nat → Option (Nat × Tl) → Option (Nat × Tl)
  | [], _, o => o
  | y :: r, i, o => firstF but r (i + 1) (if y.id ∈ but then o else match o with
    | none => some (i, y)
    | some (j, z) => if LessT y z then some (i, y) else some (j, z))
theorem first_cons (but : List Int) (y : Tl) (r : List Tl) (i : Nat) (o : Option (Nat × Tl)) : firstF but (y :: r) i o = firstF but r (i + 1) (if y.id ∈ but then o else match o with
    | none => some (i, y)
    | some (j, z) => if LessT y z then some (i, y) else some (j, z)) := rfl
theorem first_ok {but : List Int} : ∀ {P : List Tl} {pre : List Tl} {o : Option (Nat × Tl)}, (∀ j z, o = some (j, z) → pre[j]? = some z ∧ z.id ∉ but ∧ ∀ y ∈ pre, y.id ∉ but → ¬ LessT y z) → (o = none → ∀ y ∈ pre, y.id ∈ but) →
    (∀ j z, firstF but P pre.length o = some (j, z) → (pre ++ P)[j]? = some z ∧ z.id ∉ but ∧ ∀ y ∈ pre ++ P, y.id ∉ but → ¬ LessT y z) ∧ (firstF but P pre.length o = none → ∀ y ∈ pre ++ P, y.id ∈ but)
  | [], pre, o, h1, h2 => by simp only [firstF, List.append_nil]; exact ⟨h1, h2⟩
  | y :: r, pre, o, h1, h2 => by
    rw [first_cons]
    have hl : pre.length + 1 = (pre ++ [y]).length := by simp
    rw [hl, show pre ++ y :: r = (pre ++ [y]) ++ r by simp]
    refine first_ok (fun j z e => ?_) (fun e => ?_)
    · split at e
      · rename_i hy
        obtain ⟨g1, g2, g3⟩ := h1 j z e
        refine ⟨by rw [List.getElem?_append_left (List.getElem?_eq_some_iff.1 g1).1]; exact g1, g2, fun u hu hn => ?_⟩
        rcases List.mem_append.1 hu with hu | hu
        · exact g3 u hu hn
        · rw [List.mem_singleton.1 hu] at hn; exact absurd hy hn
      · rename_i hy
        split at e
        · obtain ⟨rfl, rfl⟩ := Prod.mk.inj (Option.some.inj e)
          refine ⟨by simp, hy, fun u hu hn => ?_⟩
          rcases List.mem_append.1 hu with hu | hu
          · exact absurd (h2 rfl u hu) hn
          · rw [List.mem_singleton.1 hu]; exact fun k => less_irr k k
        · rename_i j0 z0
          obtain ⟨g1, g2, g3⟩ := h1 j0 z0 rfl
          split at e
          · rename_i hlt
            obtain ⟨rfl, rfl⟩ := Prod.mk.inj (Option.some.inj e)
            refine ⟨by simp, hy, fun u hu hn => ?_⟩
            rcases List.mem_append.1 hu with hu | hu
            · exact fun k => g3 u hu hn (k.trans hlt)
            · rw [List.mem_singleton.1 hu]; exact fun k => less_irr k k
          · rename_i hlt
            obtain ⟨rfl, rfl⟩ := Prod.mk.inj (Option.some.inj e)
            refine ⟨by rw [List.getElem?_append_left (List.getElem?_eq_some_iff.1 g1).1]; exact g1, g2, fun u hu hn => ?_⟩
            rcases List.mem_append.1 hu with hu | hu
            · exact g3 u hu hn
            · rw [List.mem_singleton.1 hu]; exact hlt
    · split at e
      · rename_i hy
        intro u hu
        rcases List.mem_append.1 hu with hu | hu
        · exact h2 e u hu
        · rw [List.mem_singleton.1 hu]; exact hy
      · split at e
        · cases e
        · split at e <;> cases e
theorem first_all {but : List Int} {P : List Tl} : (∀ j z, firstF but P 0 none = some (j, z) → P[j]? = some z ∧ z.id ∉ but ∧ ∀ y ∈ P, y.id ∉ but → ¬ LessT y z) ∧ (firstF but P 0 none = none → ∀ y ∈ P, y.id ∈ but) := by
  have := first_ok (but := but) (P := P) (pre := []) (o := none) (fun _ _ h => by cases h) (fun _ _ h => by cases h)
  simpa using this
def takeR (lim : Int) : Nat → List Tl → List Tl → List Tl × List Tl
  | 0, P, out => (out, P)
  | k + 1, P, out => match firstF (out.map (·.id)) P 0 none with
    | none => (out, P)
    | some (i, z) => takeR lim k (if lim ≤ z.told + 1 then P.eraseIdx i else P.set i z.bump) (out ++ [z])
def backQ (lim : Int) (acc : List Tl) (t : Tl) : List Tl := if t.told + 1 < lim then putQ t.bump acc else acc
def takeQ (lim : Int) (n : Nat) (q : List Tl) : List Tl × List Tl := (q.take n, (q.take n).foldl (backQ lim) (q.drop n))
def bumped (lim : Int) (l : List Tl) : List Tl := (l.map Tl.bump).filter fun t => decide (t.told < lim)
structure RelQ (q P : List Tl) : Prop where
  sort : q.Pairwise LessT
  perm : q.Perm P
  ids : (q.map (·.id)).Nodup
theorem bumped_app (lim : Int) (a b : List Tl) : bumped lim (a ++ b) = bumped lim a ++ bumped lim b := by simp [bumped]
theorem bumped_ids {lim : Int} {l : List Tl} : ∀ y ∈ bumped lim l, y.id ∈ l.map (·.id) := by
  intro y hy
  simp only [bumped, List.mem_filter, List.mem_map] at hy
  obtain ⟨⟨z, hz, rfl⟩, -⟩ := hy
  exact List.mem_map.2 ⟨z, hz, rfl⟩
theorem take_step {lim : Int} {q : List Tl} (hs : q.Pairwise LessT) (hn : (q.map (·.id)).Nodup) : ∀ (k j : Nat) (P : List Tl), P.Perm (bumped lim (q.take j) ++ q.drop j) → j ≤ q.length →
    (takeR lim k P (q.take j)).1 = q.take (j + k) ∧ (takeR lim k P (q.take j)).2.Perm (bumped lim (q.take (j + k)) ++ q.drop (j + k))
  | 0, j, P, hp, hj => ⟨rfl, hp⟩
  | k + 1, j, P, hp, hj => by
    rw [takeR]
    have hno : ∀ y ∈ q.drop j, y.id ∉ (q.take j).map (·.id) := by
      intro y hy hm
      have h2 : (q.take j ++ q.drop j).map (·.id) = q.map (·.id) := by rw [List.take_append_drop]
      rw [List.map_append] at h2
      rw [← h2, List.nodup_append] at hn
      exact hn.2.2 _ hm _ (List.mem_map.2 ⟨y, hy, rfl⟩) rfl
    cases e : firstF ((q.take j).map (·.id)) P 0 none with
    | none =>
      have h := first_all.2 e
      have hd : q.drop j = [] := by
        cases hd : q.drop j with
        | nil => rfl
        | cons d r =>
          have h1 : d ∈ q.drop j := by rw [hd]; exact List.mem_cons_self
          exact absurd (h d (hp.mem_iff.2 (List.mem_append_right _ h1))) (hno d h1)
      have hl : q.length = j := by
        have := List.drop_eq_nil_iff.1 hd
        omega
      have e1 : q.take (j + (k + 1)) = q.take j := by rw [List.take_of_length_le (by omega), List.take_of_length_le (by omega)]
      have e2 : q.drop (j + (k + 1)) = q.drop j := by rw [List.drop_eq_nil_of_le (by omega), List.drop_eq_nil_of_le (by omega)]
      rw [e1, e2]
      exact ⟨rfl, hp⟩
    | some iz =>
      obtain ⟨i, z⟩ := iz
      obtain ⟨g1, g2, g3⟩ := first_all.1 i z e
      have hz : z ∈ q.drop j := by
        rcases List.mem_append.1 (hp.mem_iff.1 (List.mem_of_getElem? g1)) with h | h
        · exact absurd (bumped_ids z h) g2
        · exact h
      obtain ⟨d, r, hd⟩ : ∃ d r, q.drop j = d :: r := by
        cases hd : q.drop j with
        | nil => rw [hd] at hz; cases hz
        | cons d r => exact ⟨d, r, rfl⟩
      have hdm : d ∈ q.drop j := by rw [hd]; exact List.mem_cons_self
      have hzd : z = d := by
        rw [hd] at hz
        rcases List.mem_cons.1 hz with h | h
        · exact h
        · have hs2 : (q.drop j).Pairwise LessT := hs.sublist (List.drop_sublist _ _)
          rw [hd, List.pairwise_cons] at hs2
          exact absurd (hs2.1 z h) (g3 d (hp.mem_iff.2 (List.mem_append_right _ hdm)) (hno d hdm))
      subst hzd
      have hjl : j < q.length := by
        have := congrArg List.length hd
        simp only [List.length_drop, List.length_cons] at this
        omega
      have hqj : q[j] = z := by
        have := List.drop_eq_getElem_cons hjl
        rw [hd] at this
        exact (List.cons.inj this).1.symm
      have hdr : q.drop (j + 1) = r := by
        have := List.drop_eq_getElem_cons hjl
        rw [hd] at this
        exact (List.cons.inj this).2.symm
      have htk : q.take (j + 1) = q.take j ++ [z] := by rw [List.take_succ_eq_append_getElem hjl, hqj]
      obtain ⟨hil, hiz⟩ := List.getElem?_eq_some_iff.1 g1
      have hper : P.Perm (z :: P.eraseIdx i) := by
        have := erase_perm hil
        rw [hiz] at this
        exact this
      have hrest : (P.eraseIdx i).Perm (bumped lim (q.take j) ++ r) := by
        have h1 : (z :: P.eraseIdx i).Perm (z :: (bumped lim (q.take j) ++ r)) := hper.symm.trans (hp.trans (by rw [hd]; exact List.perm_middle))
        exact h1.cons_inv
      have key := take_step hs hn k (j + 1) (if lim ≤ z.told + 1 then P.eraseIdx i else P.set i z.bump) (by
        rw [htk, bumped_app, hdr]
        split
        · rename_i hl
          have : bumped lim [z] = [] := by
            simp only [bumped, List.map_cons, List.map_nil, List.filter_cons, List.filter_nil, Tl.bump]
            rw [if_neg]
            simp; omega
          rw [this, List.append_nil]
          exact hrest
        · rename_i hl
          have : bumped lim [z] = [z.bump] := by
            simp only [bumped, List.map_cons, List.map_nil, List.filter_cons, List.filter_nil, Tl.bump]
            rw [if_pos]
            simp; omega
          rw [this]
          refine (set_perm z.bump hil).trans ((hrest.cons z.bump).trans ?_)
          rw [List.append_assoc]
          exact List.perm_middle.symm) (by omega)
      rw [htk] at key
      rw [show j + (k + 1) = j + 1 + k by omega]
      exact key
theorem back_perm {lim : Int} : ∀ (l acc : List Tl), (l.foldl (backQ lim) acc).Perm (bumped lim l ++ acc)
  | [], _ => .refl _
  | t :: r, acc => by
    rw [List.foldl_cons]
    refine (back_perm r _).trans ?_
    rw [show t :: r = [t] ++ r from rfl, bumped_app, backQ]
    split
    · rename_i h
      have : bumped lim [t] = [t.bump] := by
        simp only [bumped, List.map_cons, List.map_nil, List.filter_cons, List.filter_nil, Tl.bump]
        rw [if_pos]
        simp; omega
      rw [this]
      exact ((put_perm t.bump acc).append_left _).trans List.perm_middle
    · rename_i h
      have : bumped lim [t] = [] := by
        simp only [bumped, List.map_cons, List.map_nil, List.filter_cons, List.filter_nil, Tl.bump]
        rw [if_neg]
        simp; omega
      rw [this]
      exact .refl _
theorem back_sort {lim : Int} : ∀ (l acc : List Tl), acc.Pairwise LessT → ((l ++ acc).map (·.id)).Nodup → (l.foldl (backQ lim) acc).Pairwise LessT
  | [], _, h, _ => h
  | t :: r, acc, h, hn => by
    rw [List.foldl_cons]
    rw [List.cons_append, List.map_cons, List.nodup_cons] at hn
    rw [backQ]
    split
    · refine back_sort r _ (put_sort h fun y hy e => hn.1 ?_) ?_
      · exact List.mem_map.2 ⟨y, List.mem_append_right _ hy, e⟩
      · have hp : ((r ++ putQ t.bump acc).map (·.id)).Perm (t.id :: (r ++ acc).map (·.id)) := by
          have h1 : (r ++ putQ t.bump acc).Perm (t.bump :: (r ++ acc)) := ((put_perm t.bump acc).append_left r).trans List.perm_middle
          exact h1.map _
        exact hp.nodup_iff.2 (List.nodup_cons.2 hn)
    · exact back_sort r _ h hn.2
theorem take_rel {lim : Int} {q P : List Tl} (h : RelQ q P) (n : Nat) : (takeR lim n P []).1 = (takeQ lim n q).1 ∧ RelQ (takeQ lim n q).2 (takeR lim n P []).2 := by
  obtain ⟨h1, h2⟩ := take_step (lim := lim) h.sort h.ids n 0 P (by simpa [bumped] using h.perm.symm) (Nat.zero_le _)
  simp only [List.take_zero, Nat.zero_add] at h1 h2
  refine ⟨h1, ?_, ?_, ?_⟩
  · exact back_sort _ _ (h.sort.sublist (List.drop_sublist _ _)) (by rw [List.take_append_drop]; exact h.ids)
  · exact (back_perm _ _).trans h2.symm
  · have hp := (back_perm (lim := lim) (q.take n) (q.drop n)).map (·.id)
    refine hp.nodup_iff.2 ?_
    have hsub : ((bumped lim (q.take n) ++ q.drop n).map (·.id)).Sublist (q.map (·.id)) := by
      conv => rhs; rw [← List.take_append_drop n q]
      rw [List.map_append, List.map_append]
      refine List.Sublist.append ?_ (List.Sublist.refl _)
      have : (q.take n).map (·.id) = ((q.take n).map Tl.bump).map (·.id) := by rw [List.map_map]; rfl
      rw [this]
      exact List.filter_sublist.map _
    exact h.ids.sublist hsub
def addR (ov : Tl → Tl → Bool) (w : Tl) (P : List Tl) : Bool × List Tl :=
  if idI w.id P 0 < 0 then (true, P ++ [w]) else match P[(idI w.id P 0).toNat]? with
  | some y => if ov w y then (true, P.eraseIdx (idI w.id P 0).toNat ++ [w]) else (false, P)
  | none => (false, P)
def addQ (ov : Tl → Tl → Bool) (w : Tl) (q : List Tl) : Bool × List Tl :=
  if idI w.id q 0 < 0 then (true, putQ w q) else match q[(idI w.id q 0).toNat]? with
  | some y => if ov w y then (true, putQ w (q.eraseIdx (idI w.id q 0).toNat)) else (false, q)
  | none => (false, q)
theorem id_uniq : ∀ {l : List Tl}, (l.map (·.id)).Nodup → ∀ {x y : Tl}, x ∈ l → y ∈ l → x.id = y.id → x = y
  | [], _, _, _, h, _, _ => by cases h
  | t :: r, hn, x, y, hx, hy, e => by
    rw [List.map_cons, List.nodup_cons] at hn
    rcases List.mem_cons.1 hx with rfl | hx' <;> rcases List.mem_cons.1 hy with rfl | hy'
    · rfl
    · exact absurd (List.mem_map.2 ⟨y, hy', e.symm⟩ : x.id ∈ r.map (·.id)) hn.1
    · exact absurd (List.mem_map.2 ⟨x, hx', e⟩ : y.id ∈ r.map (·.id)) hn.1
    · exact id_uniq hn.2 hx' hy' e
theorem add_rel {ov : Tl → Tl → Bool} {w : Tl} {q P : List Tl} (h : RelQ q P) : (addR ov w P).1 = (addQ ov w q).1 ∧ RelQ (addQ ov w q).2 (addR ov w P).2 := by
  obtain ⟨a1, a2⟩ := id_at (a := w.id) (q := q) (i := 0)
  obtain ⟨b1, b2⟩ := id_at (a := w.id) (q := P) (i := 0)
  unfold addR addQ
  by_cases hq : idI w.id q 0 < 0
  · have hP : idI w.id P 0 < 0 := by
      apply Int.lt_of_not_ge
      intro hh
      obtain ⟨k, y, -, e2, e3⟩ := b2 hh
      exact a1 hq y (h.perm.mem_iff.2 (List.mem_of_getElem? e2)) e3
    rw [if_pos hq, if_pos hP]
    refine ⟨rfl, put_sort h.sort (a1 hq), (put_perm w q).trans ?_, ?_⟩
    · exact (h.perm.cons w).trans (List.perm_append_singleton w P).symm
    · refine ((put_perm w q).map _).nodup_iff.2 (List.nodup_cons.2 ⟨fun hm => ?_, h.ids⟩)
      obtain ⟨y, hy, e⟩ := List.mem_map.1 hm
      exact a1 hq y hy e
  · obtain ⟨k, y, e1, e2, e3⟩ := a2 (by omega)
    have hP : ¬ idI w.id P 0 < 0 := fun hh => b1 hh y (h.perm.mem_iff.1 (List.mem_of_getElem? e2)) e3
    obtain ⟨k', y', e1', e2', e3'⟩ := b2 (by omega)
    have hyy : y' = y := id_uniq h.ids (h.perm.mem_iff.2 (List.mem_of_getElem? e2')) (List.mem_of_getElem? e2) (e3'.trans e3.symm)
    subst hyy
    rw [if_neg hq, if_neg hP, e1, e1', Nat.zero_add, Nat.zero_add, Int.toNat_natCast, Int.toNat_natCast, e2, e2']
    simp only
    split
    · obtain ⟨l1, g1⟩ := List.getElem?_eq_some_iff.1 e2
      obtain ⟨l2, g2⟩ := List.getElem?_eq_some_iff.1 e2'
      have p1 : q.Perm (y' :: q.eraseIdx k) := by have := erase_perm l1; rw [g1] at this; exact this
      have p2 : P.Perm (y' :: P.eraseIdx k') := by have := erase_perm l2; rw [g2] at this; exact this
      have p3 : (q.eraseIdx k).Perm (P.eraseIdx k') := (p1.symm.trans (h.perm.trans p2)).cons_inv
      have hn := (p1.map (·.id)).nodup_iff.1 h.ids
      rw [List.map_cons, List.nodup_cons] at hn
      have hne : ∀ z ∈ q.eraseIdx k, z.id ≠ w.id := fun z hz e => hn.1 (List.mem_map.2 ⟨z, hz, e.trans e3.symm⟩)
      refine ⟨rfl, put_sort (h.sort.sublist (List.eraseIdx_sublist _ _)) hne, (put_perm w _).trans ?_, ?_⟩
      · exact (p3.cons w).trans (List.perm_append_singleton w _).symm
      · refine ((put_perm w _).map _).nodup_iff.2 (List.nodup_cons.2 ⟨fun hm => ?_, hn.2⟩)
        obtain ⟨z, hz, e⟩ := List.mem_map.1 hm
        exact hne z hz e
    · exact ⟨rfl, h⟩
end GS
end Go.Proofs.Ytfnnmkjlokjkhaa
