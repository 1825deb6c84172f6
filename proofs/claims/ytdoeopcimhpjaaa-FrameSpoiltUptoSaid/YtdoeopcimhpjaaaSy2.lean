/-
  The symbolic machine: what types say, cells taken apart, read and written.
-/
import Derived.Test.YtdoeopcimhpjaaaSy1
import Derived.Laws.CopyRow
import Derived.ChangeKeysEq
set_option linter.unusedSimpArgs false
set_option linter.unusedVariables false
namespace Go.SY
open Go

/-- Lists, step by step. -/
def nth {α : Type} : List α → Nat → Option α
  | [], _ => none
  | a :: r, i => if i = 0 then some a else nth r (i - 1)

theorem nth_eq {α : Type} : ∀ (l : List α) (i : Nat), nth l i = l[i]?
  | [], _ => by simp [nth]
  | a :: r, 0 => by simp [nth]
  | a :: r, i + 1 => by simp [nth, nth_eq r i]

def lvl : Bls → Nat → Option Ct
  | [], _ => none
  | b :: r, l => if l = 0 then b else lvl r (l - 1)

def setl : Bls → Nat → Option Ct → Bls
  | [], _, _ => []
  | b :: r, l, x => if l = 0 then x :: r else b :: setl r (l - 1) x

theorem lvl_get : ∀ {bl : Bls} {l : Nat} {c : Ct}, lvl bl l = some c → bl[l]? = some (some c)
  | [], _, _, h => by simp [lvl] at h
  | b :: r, 0, c, h => by simp [lvl] at h; simp [h]
  | b :: r, l + 1, c, h => by simp [lvl] at h; simpa using lvl_get h

theorem setl_set : ∀ (bl : Bls) (l : Nat) (x : Option Ct), setl bl l x = bl.set l x
  | [], _, _ => by simp [setl]
  | b :: r, 0, x => by simp [setl]
  | b :: r, l + 1, x => by simp [setl, setl_set r l x]

inductive KD where
  | int (k : IntKind)
  | bool
  | str
  | ptr (e : TypeId)
  | slice (e : TypeId) (sz by_ : Nat)
  | arr (n : Nat) (e : TypeId) (sz : Nat)
  | struct (fs : List (Nat × Nat × Bool))
  | map (k e : TypeId)
  | other

/-- What is compared, one behind the other. -/
inductive Lf where
  | int (k : IntKind)
  | str
  | bool
  | ints (n : Nat) (k : IntKind)

def Lf.wid : Lf → Nat
  | .ints n _ => n
  | _ => 1

def lfw : List Lf → Nat
  | [] => 0
  | l :: r => l.wid + lfw r

def eqFs (P : Program) (g : TypeId → Option (List Lf)) : List Field → Nat → Option (List Lf)
  | [], _ => some []
  | f :: fs, o => if f.name ≠ "_" ∧ f.offset = o then (match g f.type with
      | some L => if lfw L = P.cellsOf f.type ∧ P.cellsOf f.type ≠ 0 then (match eqFs P g fs (o + P.cellsOf f.type) with
        | some r => some (L ++ r)
        | none => none) else none
      | none => none) else none

/-- The leaves of a type that is compared piece by piece. -/
def eqLf (P : Program) : Nat → TypeId → Option (List Lf)
  | 0, _ => none
  | d + 1, t => match P.underlying t with
    | some (.int k) => some [.int k]
    | some .string => some [.str]
    | some .bool => some [.bool]
    | some (.array n e) => (match P.underlying e with
      | some (.int k) => if P.cellsOf e = 1 then some [.ints n k] else none
      | _ => none)
    | some (.struct fs) => if P.stoodInHeld t = true then none else eqFs P (eqLf P d) fs.toList 0
    | _ => none

structure TI where
  sz : Nat
  by_ : Nat
  ag : Bool
  kd : KD
  ik : Option IntKind
  zc : Option (List AV)
  eq : Option (List Lf)

def aggD : TypeDesc → Bool
  | .struct _ => true
  | .array _ _ => true
  | _ => false

def agOf (P : Program) (t : TypeId) : Bool := match P.underlying t with
  | some d => aggD d
  | none => false

def kdOf (P : Program) : TypeDesc → KD
  | .int k => .int k
  | .bool => .bool
  | .string => .str
  | .pointer e => .ptr e
  | .slice e => .slice e (P.cellsOf e) (P.bytesOf e)
  | .array n e => .arr n e (P.cellsOf e)
  | .struct fs => if fs.toList.all (fun f => (P.underlying f.type).isSome) = true then .struct (fs.toList.map fun f => (f.offset, P.cellsOf f.type, agOf P f.type)) else .other
  | .map k e => .map k e
  | _ => .other

theorem kdOf_ptr {P : Program} {d : TypeDesc} {e : TypeId} (h : kdOf P d = .ptr e) : d = .pointer e := by
  cases d <;> simp only [kdOf] at h <;> first | (cases h; done) | (split at h <;> cases h; done) | (rw [KD.ptr.inj h])
theorem kdOf_bool {P : Program} {d : TypeDesc} (h : kdOf P d = .bool) : d = .bool := by
  cases d <;> simp only [kdOf] at h <;> first | rfl | (cases h; done) | (split at h <;> cases h; done)
theorem kdOf_str {P : Program} {d : TypeDesc} (h : kdOf P d = .str) : d = .string := by
  cases d <;> simp only [kdOf] at h <;> first | rfl | (cases h; done) | (split at h <;> cases h; done)
theorem kdOf_int {P : Program} {d : TypeDesc} {k : IntKind} (h : kdOf P d = .int k) : d = .int k := by
  cases d <;> simp only [kdOf] at h <;> first | (cases h; done) | (split at h <;> cases h; done) | (rw [KD.int.inj h])
theorem kdOf_slice {P : Program} {d : TypeDesc} {e : TypeId} {sz b : Nat} (h : kdOf P d = .slice e sz b) : d = .slice e ∧ P.cellsOf e = sz ∧ P.bytesOf e = b := by
  cases d <;> simp only [kdOf] at h <;> first | (cases h; done) | (split at h <;> cases h; done) | (obtain ⟨rfl, h1, h2⟩ := KD.slice.inj h; exact ⟨rfl, h1, h2⟩)
theorem kdOf_arr {P : Program} {d : TypeDesc} {e : TypeId} {n sz : Nat} (h : kdOf P d = .arr n e sz) : d = .array n e ∧ P.cellsOf e = sz := by
  cases d <;> simp only [kdOf] at h <;> first | (cases h; done) | (split at h <;> cases h; done) | (obtain ⟨rfl, rfl, h1⟩ := KD.arr.inj h; exact ⟨rfl, h1⟩)
theorem kdOf_map {P : Program} {d : TypeDesc} {e k : TypeId} (h : kdOf P d = .map k e) : d = .map k e := by
  cases d <;> simp only [kdOf] at h <;> first | (cases h; done) | (split at h <;> cases h; done) | (obtain ⟨rfl, rfl⟩ := KD.map.inj h; rfl)

/-- The pieces of a type's cells: one cell; so many numbers. -/
def segsOf (P : Program) : Nat → TypeId → List (Option (Nat × IntKind))
  | 0, t => List.replicate (P.cellsOf t) none
  | d + 1, t => match P.underlying t with
    | some (.struct fs) => fs.toList.flatMap fun f => segsOf P d f.type
    | some (.array n e) => (match P.underlying e with
      | some (.int k) => if P.cellsOf t = n then [some (n, k)] else List.replicate (P.cellsOf t) none
      | _ => List.replicate (P.cellsOf t) none)
    | _ => List.replicate (P.cellsOf t) none

def mk : Value → AV
  | .agg _ => .any
  | .tuple xs => if xs.size = 0 then .tup [] else .any
  | .slice none 0 0 => .nil
  | .int k z => if inK k z = true then .v (.int k z) else .any
  | .string s => if s.size < 9223372036854775808 then .v (.string s) else .any
  | x => .v x

def numsV (k : IntKind) : List Value → Option (List Int)
  | [] => some []
  | .int k' z :: r => if k' = k ∧ inK k z = true then (match numsV k r with
      | some zs => some (z :: zs)
      | none => none) else none
  | _ :: _ => none

/-- Values in pieces. -/
def chunk : List (Option (Nat × IntKind)) → List Value → Option (List AV)
  | [], [] => some []
  | [], _ :: _ => none
  | none :: ss, vs => (match vs with
      | [] => none
      | v :: r => (match chunk ss r with
        | some q => some (mk v :: q)
        | none => none))
  | some (n, k) :: ss, vs => if n ≤ vs.length then (match numsV k (vs.take n) with
      | some zs => (match chunk ss (vs.drop n) with
        | some q => some (.ch n k zs :: q)
        | none => none)
      | none => none) else none

def ikOf (P : Program) (t : TypeId) : Option IntKind := match P.underlying t with
  | some (.int k) => some k
  | some (.array _ e) => (match P.underlying e with
    | some (.int k) => some k
    | _ => none)
  | some (.slice e) => (match P.underlying e with
    | some (.int k) => some k
    | _ => none)
  | _ => none

def zcOf (P : Program) (t : TypeId) (i : TypeInfo) : Option (List AV) := match i.zero with
  | none => none
  | some v => if v.cells.toList.all one = true then chunk (segsOf P 8 t) v.cells.toList else none

def ti (P : Program) (t : TypeId) : Option TI :=
  match P.info? t, P.underlying t with
  | some i, some d => some { sz := i.size, by_ := i.bytes, ag := aggD d, kd := kdOf P d, ik := ikOf P t, zc := zcOf P t i, eq := eqLf P 8 t }
  | _, _ => none

theorem ti_spec {P : Program} {t : TypeId} {T : TI} (h : ti P t = some T) : ∃ i d, P.info? t = some i ∧ P.underlying t = some d ∧ T.sz = i.size ∧ T.by_ = i.bytes ∧ T.ag = aggD d ∧
    T.kd = kdOf P d ∧ T.ik = ikOf P t ∧ T.zc = zcOf P t i ∧ T.eq = eqLf P 8 t := by
  unfold ti at h
  split at h
  · rename_i i d h1 h2
    obtain rfl := Option.some.inj h
    exact ⟨i, d, h1, h2, rfl, rfl, rfl, rfl, rfl, rfl, rfl⟩
  · cases h

section
variable {P : Program} (w : World)

theorem ti_sizeOf {t : TypeId} {T : TI} (h : ti P t = some T) : (sizeOf t).run P w = .ok T.sz w := by
  obtain ⟨i, d, hi, -, hs, -⟩ := ti_spec h
  simp [sizeOf, typeInfo, hi, hs]

theorem ti_isAgg {t : TypeId} {T : TI} (h : ti P t = some T) : (isAgg t).run P w = .ok T.ag w := by
  obtain ⟨i, d, -, hd, -, -, hs, -⟩ := ti_spec h
  simp only [isAgg, underlying, Sem.run_bind, run_program, Result.andThen_ok, hd, hs]
  cases d <;> rfl

theorem underlying_run {t : TypeId} {d : TypeDesc} (h : P.underlying t = some d) : (underlying t).run P w = .ok d w := by
  simp [underlying, h]

theorem sizeOf_pos {t : TypeId} {n : Nat} (h : P.cellsOf t = n) (hn : n ≠ 0) : (sizeOf t).run P w = .ok n w := by
  unfold Program.cellsOf at h
  cases hi : P.info? t with
  | none => simp [hi] at h; omega
  | some i => simp [hi] at h; simp [sizeOf, typeInfo, hi, h]

end

theorem den_mk (β : Env) (x : Value) : Den β (mk x) x := by
  unfold mk
  split
  · simp only [Den]
  · split
    · rename_i xs h
      simp only [Den]
      exact ⟨[], by rw [Array.eq_empty_of_size_eq_zero h], by simp only [DenL]⟩
    · simp only [Den]
  · simp only [Den]
  · split
    · rename_i h; simp only [Den, one, wfV, true_and]; exact h
    · simp only [Den]
  · split
    · rename_i h; simp only [Den, one, wfV, true_and]; exact h
    · simp only [Den]
  · rename_i h1 h2 h3 h4 h5
    simp only [Den, true_and]
    cases x <;> simp_all [one, wfV]

theorem mk_scal {x : Value} (h : one x = true) : (mk x).scal = true := by
  unfold mk
  split
  · simp [one] at h
  · simp [one] at h
  · rfl
  · split <;> rfl
  · split <;> rfl
  · rfl

/-! ### cells, symbolically -/
def wid : AV → Nat
  | .ch n _ _ => n
  | _ => 1

def wids : List AV → Nat
  | [] => 0
  | c :: cs => wid c + wids cs

def dr : List AV → Nat → Option (List AV)
  | [], o => if o = 0 then some [] else none
  | c :: cs, o => if o = 0 then some (c :: cs) else match c with
    | .ch n k xs => if n ≤ o then dr cs (o - n) else some (.ch (n - o) k (xs.drop o) :: cs)
    | _ => dr cs (o - 1)

def tk : List AV → Nat → Option (List AV)
  | [], s => if s = 0 then some [] else none
  | c :: cs, s => if s = 0 then some [] else match c with
    | .ch n k xs => if n ≤ s then (match tk cs (s - n) with | some r => some (.ch n k xs :: r) | none => none) else some [.ch s k (xs.take s)]
    | c => match tk cs (s - 1) with | some r => some (c :: r) | none => none

theorem okN_sub {k : IntKind} {xs ys : List Int} (h : okN k xs) (hs : ∀ y ∈ ys, y ∈ xs) : okN k ys := fun y hy => h y (hs y hy)
theorem okN_take {k : IntKind} {xs : List Int} (h : okN k xs) (n : Nat) : okN k (xs.take n) := okN_sub h fun _ hy => List.mem_of_mem_take hy
theorem okN_drop {k : IntKind} {xs : List Int} (h : okN k xs) (n : Nat) : okN k (xs.drop n) := okN_sub h fun _ hy => List.mem_of_mem_drop hy
theorem okN_append {k : IntKind} {xs ys : List Int} (h : okN k xs) (g : okN k ys) : okN k (xs ++ ys) := fun y hy => (List.mem_append.1 hy).elim (h y) (g y)
theorem okN_set {k : IntKind} {xs : List Int} (h : okN k xs) {i : Nat} {z : Int} (hz : inK k z = true) : okN k (xs.set i z) := fun y hy => by
  rcases List.mem_or_eq_of_mem_set hy with hy | rfl
  · exact h y hy
  · exact hz
theorem okN_get {k : IntKind} {xs : List Int} (h : okN k xs) {i : Nat} (hi : i < xs.length) : inK k (xs[i]?.getD 0) = true := by
  rw [List.getElem?_eq_getElem hi]; exact h _ (List.getElem_mem hi)

theorem denC_len {β : Env} : ∀ {cs : List AV} {ys : List Value}, DenC β cs ys → ys.length = wids cs
  | [], _, h => by simp only [DenC] at h; subst h; rfl
  | c :: cs, _, h => by
    rcases denC_case h with ⟨hs, y, zs, rfl, h1, h2, h3⟩ | ⟨n, k, ns, rfl, zs, rfl, h1, h2, h3⟩
    · have : wid c = 1 := by cases c <;> first | rfl | (simp [AV.scal] at hs)
      simp [wids, this, denC_len h3, Nat.add_comm]
    · simp [wids, wid, h1, denC_len h3]

theorem denC_append {β : Env} : ∀ {cs ds : List AV} {ys zs : List Value}, DenC β cs ys → DenC β ds zs → DenC β (cs ++ ds) (ys ++ zs)
  | [], _, _, _, h1, h2 => by simp only [DenC] at h1; subst h1; exact h2
  | c :: cs, _, _, _, h, h2 => by
    rcases denC_case h with ⟨hs, y, zs, rfl, h3, h4, h5⟩ | ⟨n, k, ns, rfl, zs, rfl, h3, h4, h5⟩
    · exact (denC_cons hs).2 ⟨y, _, rfl, h3, h4, denC_append h5 h2⟩
    · exact denC_ch.2 ⟨_, by simp, h3, h4, denC_append h5 h2⟩

theorem denC_dr {β : Env} : ∀ {cs cs' : List AV} {ys : List Value} {o : Nat}, DenC β cs ys → dr cs o = some cs' → o ≤ ys.length ∧ DenC β cs' (ys.drop o)
  | [], cs', ys, o, h, he => by
    simp only [dr] at he
    split at he
    · rename_i h0; subst h0; obtain rfl := Option.some.inj he; exact ⟨Nat.zero_le _, by simpa using h⟩
    · cases he
  | c :: cs, cs', ys, o, h, he => by
    simp only [dr] at he
    split at he
    · rename_i h0; subst h0; obtain rfl := Option.some.inj he; exact ⟨Nat.zero_le _, by simpa using h⟩
    · rename_i h0
      rcases denC_case h with ⟨hs, y, zs, rfl, h1, h2, h3⟩ | ⟨n, k, ns, rfl, zs, rfl, h1, h2, h3⟩
      · split at he
        · simp [AV.scal] at hs
        · obtain ⟨h4, h5⟩ := denC_dr h3 he
          refine ⟨by simp; omega, ?_⟩
          obtain ⟨o', rfl⟩ : ∃ o', o = o' + 1 := ⟨o - 1, by omega⟩
          simpa using h5
      · simp only at he
        split at he
        · rename_i hle
          obtain ⟨h4, h5⟩ := denC_dr h3 he
          refine ⟨by simp [h1]; omega, ?_⟩
          rw [List.drop_append, List.drop_of_length_le (by simp; omega)]
          simpa [h1] using h5
        · rename_i hle
          obtain rfl := Option.some.inj he
          refine ⟨by simp [h1]; omega, ?_⟩
          rw [List.drop_append_of_le_length (by simp; omega)]
          exact denC_ch.2 ⟨zs, by simp, by simp [h1], okN_drop h2 _, h3⟩

theorem denC_tk {β : Env} : ∀ {cs cs' : List AV} {ys : List Value} {s : Nat}, DenC β cs ys → tk cs s = some cs' → s ≤ ys.length ∧ DenC β cs' (ys.take s)
  | [], cs', ys, s, h, he => by
    simp only [tk] at he
    split at he
    · rename_i h0; subst h0; obtain rfl := Option.some.inj he; exact ⟨Nat.zero_le _, by simp [DenC]⟩
    · cases he
  | c :: cs, cs', ys, s, h, he => by
    simp only [tk] at he
    split at he
    · rename_i h0; subst h0; obtain rfl := Option.some.inj he; exact ⟨Nat.zero_le _, by simp [DenC]⟩
    · rename_i h0
      rcases denC_case h with ⟨hs, y, zs, rfl, h1, h2, h3⟩ | ⟨n, k, ns, rfl, zs, rfl, h1, h2, h3⟩
      · split at he
        · simp [AV.scal] at hs
        · split at he
          · rename_i r hr
            obtain rfl := Option.some.inj he
            obtain ⟨h4, h5⟩ := denC_tk h3 hr
            refine ⟨by simp; omega, ?_⟩
            obtain ⟨s', rfl⟩ : ∃ s', s = s' + 1 := ⟨s - 1, by omega⟩
            exact (denC_cons hs).2 ⟨y, _, rfl, h1, h2, by simpa using h5⟩
          · cases he
      · simp only at he
        split at he
        · rename_i hle
          split at he
          · rename_i r hr
            obtain rfl := Option.some.inj he
            obtain ⟨h4, h5⟩ := denC_tk h3 hr
            refine ⟨by simp [h1]; omega, ?_⟩
            rw [List.take_append, List.take_of_length_le (by simp; omega)]
            exact denC_ch.2 ⟨_, rfl, h1, h2, by simpa [h1] using h5⟩
          · cases he
        · rename_i hle
          obtain rfl := Option.some.inj he
          refine ⟨by simp [h1]; omega, ?_⟩
          rw [List.take_append_of_le_length (by simp; omega)]
          exact denC_ch.2 ⟨[], by simp, by simp [h1]; omega, okN_take h2 _, by simp [DenC]⟩

/-- A value laid flat. -/
def flat : AV → Nat → Option (List AV)
  | .agg xs, sz => if wids xs = sz then some xs else none
  | .ch n k xs, sz => if n = sz then some [.ch n k xs] else none
  | .tup _, _ => none
  | .any, _ => none
  | x, sz => if sz = 1 then some [x] else none

theorem den_flat {β : Env} {x : AV} {y : Value} {sz : Nat} {cs : List AV} (hd : Den β x y) (h : flat x sz = some cs) : DenC β cs y.cells.toList ∧ y.cells.toList.length = sz := by
  have scal : x.scal = true → x ≠ .any → (if sz = 1 then some [x] else none) = some cs → DenC β cs y.cells.toList ∧ y.cells.toList.length = sz := by
    intro hs ha h
    split at h
    · rename_i h1
      obtain rfl := Option.some.inj h
      have ho := den_one hs ha hd
      rw [one_cells ho]
      exact ⟨(denC_cons hs).2 ⟨y, [], rfl, hd, ho, by simp [DenC]⟩, h1.symm⟩
    · cases h
  cases x with
  | agg xs =>
    simp only [flat] at h
    split at h
    · rename_i hw
      obtain rfl := Option.some.inj h
      simp only [Den] at hd
      obtain ⟨ys, rfl, hc⟩ := hd
      exact ⟨hc, by rw [← hw]; exact denC_len hc⟩
    · cases h
  | ch n k xs =>
    simp only [flat] at h
    split at h
    · rename_i hw
      obtain rfl := Option.some.inj h
      simp only [Den] at hd
      obtain ⟨rfl, hn, ho⟩ := hd
      exact ⟨denC_ch.2 ⟨[], by simp [Value.cells], hn, ho, by simp [DenC]⟩, by simp [Value.cells, hn, hw]⟩
    · cases h
  | tup xs => simp [flat] at h
  | any => simp [flat] at h
  | _ => exact scal rfl (by simp) h

/-! ### one variable read -/
def at1 (cs : List AV) (o : Nat) : Option AV :=
  match dr cs o with
  | some (.ch n k xs :: _) => if 0 < n then some (.v (.int k (xs[0]?.getD 0))) else none
  | some (c :: _) => if c.scal = true then some c else none
  | _ => none

theorem at1_sound {β : Env} {cs : List AV} {ys : List Value} {o : Nat} {r : AV} (hc : DenC β cs ys) (h : at1 cs o = some r) : ∃ y, ys[o]? = some y ∧ Den β r y := by
  unfold at1 at h
  split at h
  · rename_i n k xs rest hd
    split at h
    · rename_i hn
      obtain rfl := Option.some.inj h
      obtain ⟨h1, h2⟩ := denC_dr hc hd
      obtain ⟨zs, h3, h4, h5, -⟩ := denC_ch.1 h2
      have hlt : 0 < xs.length := by omega
      refine ⟨.int k xs[0], ?_, ?_⟩
      · have := congrArg (fun l => l[0]?) h3
        simpa [List.getElem?_append_left, hlt] using this
      · simp only [Den, List.getElem?_eq_getElem hlt, Option.getD_some, one, wfV, true_and]
        exact h5 _ (List.getElem_mem hlt)
    · cases h
  · rename_i c rest hnc hd
    split at h
    · rename_i hs
      obtain rfl := Option.some.inj h
      obtain ⟨h1, h2⟩ := denC_dr hc hd
      obtain ⟨y, zs, h3, h4, h5, -⟩ := (denC_cons hs).1 h2
      refine ⟨y, ?_, h4⟩
      have := congrArg (fun l => l[0]?) h3
      simpa using this
    · cases h
  · cases h

/-- A value out of its pieces. -/
def pack (ps : List AV) : AV := match ps with
  | [.ch n k xs] => .ch n k xs
  | ps => .agg ps

theorem pack_sound {β : Env} {ps : List AV} {ys : List Value} (h : DenC β ps ys) : Den β (pack ps) (.agg ys.toArray) := by
  unfold pack
  split
  · obtain ⟨zs, rfl, h1, h2, h3⟩ := denC_ch.1 h
    simp only [DenC] at h3
    subst h3
    simp only [Den, List.append_nil, true_and]
    exact ⟨h1, h2⟩
  · simp only [Den]; exact ⟨ys, rfl, h⟩

/-- The pieces of a value of many cells. -/
def parts : AV → Option (List AV)
  | .agg xs => some xs
  | .ch n k xs => some [.ch n k xs]
  | _ => none

theorem parts_sound {β : Env} {x : AV} {ps : List AV} {y : Value} (hd : Den β x y) (h : parts x = some ps) : ∃ ys : List Value, y = .agg ys.toArray ∧ DenC β ps ys := by
  cases x <;> simp only [parts, Option.some.injEq] at h <;> try (cases h; done)
  · subst h; simpa only [Den] using hd
  · subst h
    simp only [Den] at hd
    obtain ⟨rfl, h1, h2⟩ := hd
    exact ⟨_, rfl, denC_ch.2 ⟨[], by simp, h1, h2, by simp [DenC]⟩⟩

/-- A variable of type T among cells, from cell o on. -/
def rdC (cs : List AV) (o : Nat) (T : TI) : Option AV :=
  match T.ag with
  | true => (match dr cs o with
      | some c1 => (match tk c1 T.sz with
        | some c2 => some (pack c2)
        | none => none)
      | none => none)
  | false => at1 cs o

/-- What is read, as values. -/
def Rd (β : Env) (ys : List Value) (o : Nat) (T : TI) (r : AV) : Prop :=
  (T.ag = true ∧ o + T.sz ≤ ys.length ∧ Den β r (.agg ((ys.drop o).take T.sz).toArray)) ∨ (T.ag = false ∧ ∃ y, ys[o]? = some y ∧ Den β r y)

theorem rdC_sound {β : Env} {cs : List AV} {ys : List Value} {o : Nat} {T : TI} {r : AV} (hc : DenC β cs ys) (h : rdC cs o T = some r) : Rd β ys o T r := by
  unfold rdC at h
  cases hag : T.ag with
  | true =>
    simp only [hag] at h
    split at h
    · rename_i c1 h1
      split at h
      · rename_i c2 h2
        obtain rfl := Option.some.inj h
        obtain ⟨h3, h4⟩ := denC_dr hc h1
        obtain ⟨h5, h6⟩ := denC_tk h4 h2
        exact .inl ⟨hag, by simp at h5; omega, pack_sound h6⟩
      · cases h
    · cases h
  | false =>
    simp only [hag] at h
    exact .inr ⟨hag, at1_sound hc h⟩

theorem Rd.mono_at {β : Env} {us ys zs : List Value} {o k w : Nat} {T : TI} {r : AV} (h : Rd β us k T r) (hu : us.length = w) (ho : ∀ j, j < w → ys[o + j]? = us[j]?) (hl : o + w ≤ ys.length) : Rd β ys (o + k) T r := by
  rcases h with ⟨h1, h2, h3⟩ | ⟨h1, y, h2, h3⟩
  · refine .inl ⟨h1, by omega, ?_⟩
    have e : (ys.drop (o + k)).take T.sz = (us.drop k).take T.sz := by
      apply List.ext_getElem?
      intro j
      by_cases hj : j < T.sz
      · rw [List.getElem?_take_of_lt hj, List.getElem?_take_of_lt hj, List.getElem?_drop, List.getElem?_drop, Nat.add_assoc, ho _ (by omega)]
      · rw [List.getElem?_eq_none (by simp; omega), List.getElem?_eq_none (by simp; omega)]
    rw [e]; exact h3
  · refine .inr ⟨h1, y, ?_, h3⟩
    rw [ho k (by have := (List.getElem?_eq_some_iff.1 h2).1; omega)]; exact h2

theorem denR_row {β : Env} {w : Nat} : ∀ {rs : List (List AV)} {ys : List Value} {i : Nat}, DenR β w rs ys → i < rs.length → ∃ us, DenC β (rs[i]?.getD []) us ∧ us.length = w ∧ (∀ j, j < w → ys[i * w + j]? = us[j]?) ∧ i * w + w ≤ ys.length
  | [], _, i, _, h => by simp at h
  | r :: rs, ys, 0, h, _ => by
    simp only [DenR] at h
    obtain ⟨us, zs, rfl, h0, h1, h2⟩ := h
    refine ⟨us, by simpa using h1, h0, fun j hj => ?_, by simp [h0]⟩
    rw [Nat.zero_mul, Nat.zero_add, List.getElem?_append_left (by omega)]
  | r :: rs, ys, i + 1, h, hi => by
    simp only [DenR] at h
    obtain ⟨us, zs, rfl, h0, h1, h2⟩ := h
    obtain ⟨vs, h3, h4, h5, h6⟩ := denR_row (i := i) h2 (by simpa using hi)
    refine ⟨vs, by simpa using h3, h4, fun j hj => ?_, by simp [h0, Nat.add_mul]; omega⟩
    rw [List.getElem?_append_right (by rw [h0, Nat.add_mul]; omega), ← h5 j hj]
    congr 1
    rw [h0, Nat.add_mul]; omega

def rdCt (c : Ct) (i w k : Nat) (T : TI) : Option (Bool × AV) :=
  match c with
  | .lit cs => (match rdC cs (i * w + k) T with
    | some r => some (true, r)
    | none => none)
  | .num kk xs => (match T.ag with
    | true => if i * w + k = 0 then some (decide (xs.length = T.sz), .ch T.sz kk xs) else none
    | false => if k = 0 then (if w = 1 then some (decide (i < xs.length), .v (.int kk (xs[i]?.getD 0))) else none) else none)
  | .rows w' rs => if w = w' then (match rdC (rs[i]?.getD []) k T with
      | some r => some (decide (i < rs.length), r)
      | none => none) else none
  | _ => none

theorem rdCt_sound {β : Env} {c : Ct} {i w k : Nat} {T : TI} {vc : Bool} {r : AV} {ys : List Value} (hc : CsDen β c ys) (h : rdCt c i w k T = some (vc, r)) (hvc : vc = true) : Rd β ys (i * w + k) T r := by
  cases c with
  | lit cs =>
    simp only [rdCt] at h
    split at h
    · rename_i r' hr
      obtain ⟨rfl, rfl⟩ := Prod.mk.inj (Option.some.inj h)
      exact rdC_sound hc hr
    · cases h
  | num kk xs =>
    simp only [CsDen] at hc
    obtain ⟨rfl, hok⟩ := hc
    simp only [rdCt] at h
    cases hag : T.ag with
    | true =>
      simp only [hag] at h
      split at h
      · rename_i h0
        obtain ⟨rfl, rfl⟩ := Prod.mk.inj (Option.some.inj h)
        have hl : xs.length = T.sz := by simpa using hvc
        refine .inl ⟨hag, by rw [h0]; simp [hl], ?_⟩
        rw [h0, List.drop_zero, List.take_of_length_le (by simp [hl])]
        simp only [Den, true_and]
        exact ⟨hl, hok⟩
      · cases h
    | false =>
      simp only [hag] at h
      split at h
      · rename_i h0
        split at h
        · rename_i h1
          obtain ⟨rfl, rfl⟩ := Prod.mk.inj (Option.some.inj h)
          have hlt : i < xs.length := by simpa using hvc
          subst h0; subst h1
          refine .inr ⟨hag, .int kk xs[i], by simp [hlt], ?_⟩
          simp only [Den, List.getElem?_eq_getElem hlt, Option.getD_some, one, wfV, true_and]
          exact hok _ (List.getElem_mem hlt)
        · cases h
      · cases h
  | rows w' rs =>
    simp only [CsDen] at hc
    simp only [rdCt] at h
    split at h
    · rename_i hw
      subst hw
      split at h
      · rename_i r' hr
        obtain ⟨rfl, rfl⟩ := Prod.mk.inj (Option.some.inj h)
        have hlt : i < rs.length := by simpa using hvc
        obtain ⟨us, h1, h2, h3, h4⟩ := denR_row hc hlt
        exact (rdC_sound h1 hr).mono_at (zs := []) h2 h3 h4
      · cases h
    · cases h
  | _ => exact hc.elim

end Go.SY
