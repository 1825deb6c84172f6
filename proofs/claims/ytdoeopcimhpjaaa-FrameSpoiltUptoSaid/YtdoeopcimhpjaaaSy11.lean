/-
  The symbolic machine: append, copy, strings turned into bytes.
-/
import Derived.Test.YtdoeopcimhpjaaaSy10
import Derived.Laws.Append
set_option linter.unusedSimpArgs false
set_option linter.unusedVariables false
namespace Go.SY
open Go

def killO (l : Option Nat) (bl : Bls) : Bls := match l with
  | some l => setl bl l none
  | none => bl

/-- Numbers that are handed over: a slice's, a string's, so many noughts. -/
def srcN (k : IntKind) (z : Int) (by_ : Nat) (u : KD) (bl : Bls) (x : AV) : Option (Bool × List Int) := match u, x with
  | .int _, .v (.int _ m) => some (decide (0 ≤ m) && (decide (m * by_ ≤ 281474976710656) && decide (m < 9223372036854775808)), List.replicate m.toNat z)
  | .str, .v (.string s) => if k = .u8 then some (true, bytesL s) else none
  | .slice _ _ _, x => numsAt k bl x
  | _, _ => none

/-- What is appended to: its level, its numbers. -/
def dstN (k : IntKind) (bl : Bls) : AV → Option (Bool × Option Nat × List Int)
  | .nil => some (true, none, [])
  | .sl l i w n c => (match c with
    | some 0 => some (true, none, [])
    | _ => (match lvl bl l with
      | some (.num k' xs) => if k' = k then (if w = 1 then (if i = 0 then some (decide (n ≤ xs.length), some l, xs.take n) else none) else none) else none
      | _ => none))
  | .imn _ _ _ c => (match c with
    | some 0 => some (true, none, [])
    | _ => none)
  | _ => none

def dstR (w : Nat) (bl : Bls) : AV → Option (Bool × Option Nat × List (List AV))
  | .nil => some (true, none, [])
  | .sl l i w' n c => (match c with
    | some 0 => some (true, none, [])
    | _ => (match lvl bl l with
      | some (.rows w2 rs) => if w2 = w then (if w' = w then (if i = 0 then some (decide (n ≤ rs.length), some l, rs.take n) else none) else none) else none
      | _ => none))
  | .imr _ _ _ c => (match c with
    | some 0 => some (true, none, [])
    | _ => none)
  | _ => none

/-- Rows that are handed over. -/
def srcR (w : Nat) (bl : Bls) : AV → Option (Bool × List (List AV) × Bls)
  | .nil => some (true, [], bl)
  | .imr _ w' rs _ => if w' = w then some (true, rs, bl) else none
  | .sl l i w' n _ => if w' = w then (match lvl bl l with
    | some (.rows w2 rs) => if w2 = w then some (decide (i + n ≤ rs.length), (rs.drop i).take n, bl) else none
    | some (.lit cs) => if i = 0 then (match tk cs (n * w) with
      | some cs => (match hdL bl cs with
        | some (vc, gs, bl1) => (match rowsOf w n gs with
          | some rs => some (vc, rs, bl1)
          | none => none)
        | none => none)
      | none => none) else none
    | _ => none) else none
  | _ => none

def chR : List AV → Nat → IntKind → Nat → (List Int → List Int) → Option (List AV)
  | [], _, _, _, _ => none
  | c :: cs, o, k, m, f => (match c with
    | .ch n k' xs => if o = 0 then (if k' = k then (if m = n then some (.ch n k (f xs) :: cs) else none) else none) else (if n ≤ o then (match chR cs (o - n) k m f with
        | some r => some (.ch n k' xs :: r)
        | none => none) else none)
    | c => if o = 0 then none else (match chR cs (o - 1) k m f with
      | some r => some (c :: r)
      | none => none))

/-- So many rows of noughts. -/
def zerR (by_ : Nat) (zc : List AV) : AV → Option (Bool × List (List AV))
  | .v (.int _ m) => some (decide (0 ≤ m) && (decide (m * by_ ≤ 281474976710656) && decide (m < 9223372036854775808)), List.replicate m.toNat zc)
  | _ => none
/-- The room that rows of one's own are known to have. -/
def roomR (bl : Bls) : AV → Option (Nat × List (List AV))
  | .sl l _ _ _ (some q) => (match lvl bl l with
    | some (.rows _ rs) => some (q, rs)
    | _ => none)
  | _ => none
/-- Rows laid behind others: where they are, or in a new block; in place, if there is known to be room. -/
def appRR (sz by_ : Nat) (c1 c2 : Bool) (l : Option Nat) (olds news : List (List AV)) (bl1 : Bls) : Option (Nat × List (List AV)) → Option (Bool × AV × Bls)
  | some (q, rs) => if olds.length + news.length ≤ q ∧ l.isSome = true then some (c1 && (c2 && decide ((olds ++ news).length * by_ ≤ 140737488355328)), .sl bl1.length 0 sz (olds ++ news).length (some q), killO l bl1 ++ [some (.rows sz (olds ++ (news ++ rs.drop (olds.length + news.length))))])
    else some (c1 && (c2 && decide ((olds ++ news).length * by_ ≤ 140737488355328)), .sl bl1.length 0 sz (olds ++ news).length none, bl1 ++ [some (.rows sz (olds ++ news))])
  | none => some (c1 && (c2 && decide ((olds ++ news).length * by_ ≤ 140737488355328)), .sl bl1.length 0 sz (olds ++ news).length none, killO l bl1 ++ [some (.rows sz (olds ++ news))])
/-- The room that numbers of one's own are known to have. -/
def roomN (bl : Bls) : AV → Option (Nat × List Int)
  | .sl l _ _ _ (some q) => (match lvl bl l with
    | some (.num _ xs) => some (q, xs)
    | _ => none)
  | _ => none
def appNN (k : IntKind) (by_ : Nat) (c1 c2 : Bool) (l : Option Nat) (olds news : List Int) (bl : Bls) : Option (Nat × List Int) → Option (Bool × AV × Bls)
  | some (q, xs) => if olds.length + news.length ≤ q ∧ l.isSome = true then some (c1 && (c2 && decide ((olds ++ news).length * by_ ≤ 140737488355328)), .sl bl.length 0 1 (olds ++ news).length (some q), killO l bl ++ [some (.num k (olds ++ (news ++ xs.drop (olds.length + news.length))))])
    else some (c1 && (c2 && decide ((olds ++ news).length * by_ ≤ 140737488355328)), .sl bl.length 0 1 (olds ++ news).length none, bl ++ [some (.num k (olds ++ news))])
  | none => some (c1 && (c2 && decide ((olds ++ news).length * by_ ≤ 140737488355328)), .sl bl.length 0 1 (olds ++ news).length none, killO l bl ++ [some (.num k (olds ++ news))])
/-- Numbers that are copied from: how many, which of them are told. -/
def cpSrcN (k : IntKind) (u : KD) (bl : Bls) (x : AV) : Option (Nat × List Int) := match u, x with
  | .str, .v (.string s) => if k = .u8 then some ((bytesL s).length, bytesL s) else none
  | .slice _ _ _, .nil => some (0, [])
  | .slice _ _ _, .imn _ k' xs _ => if k' = k then some (xs.length, xs) else none
  | .slice _ _ _, .sl l i w n _ => (match lvl bl l with
    | some (.num k' xs) => if k' = k then (if w = 1 then some (n, (xs.drop i).take n) else none) else none
    | _ => none)
  | _, _ => none
/-- Rows that are copied from: how many, which of them are told. -/
def cpSrc (sz : Nat) (bl : Bls) : AV → Option (Nat × List (List AV))
  | .nil => some (0, [])
  | .imr _ w' rs _ => if w' = sz then some (rs.length, rs) else none
  | .sl l i w' n _ => if w' = sz then (match lvl bl l with
    | some (.rows w2 rs) => if w2 = sz then some (n, (rs.drop i).take n) else none
    | _ => none) else none
  | _ => none
def cpR (sz : Nat) (bl : Bls) (d x : AV) : Option (Bool × AV × Bls) := match d with
  | .sl l i w n _ => if w = sz then (match cpSrc sz bl x, lvl bl l with
    | some (m, news), some (.rows w2 rs) => if w2 = sz then some (decide (min m n ≤ news.length) && decide (i ≤ rs.length), .v (.int .i64 (min m n : Nat)), setl bl l (some (.rows sz (rs.take i ++ (news.take (min m n) ++ rs.drop (i + min m n)))))) else none
    | _, _ => none) else none
  | _ => none
/-- Numbers that are cleared: what lies ahead of them is told. -/
def clN (k : IntKind) (bl : Bls) : AV → Option (Bool × AV × Bls)
  | .sl l i w _ _ => if w = 1 then (match lvl bl l with
    | some (.num k' xs) => if k' = k then some (decide (i ≤ xs.length), .tup [], setl bl l (some (.num k (xs.take i)))) else none
    | _ => none) else none
  | _ => none
/-- Rows that are cleared: what lies ahead of them is told. -/
def clR (sz : Nat) (bl : Bls) : AV → Option (Bool × AV × Bls)
  | .sl l i w _ _ => if w = sz then (match lvl bl l with
    | some (.rows w2 rs) => if w2 = sz then some (decide (i ≤ rs.length), .tup [], setl bl l (some (.rows sz (rs.take i)))) else none
    | _ => none) else none
  | _ => none
/-- Operations that write or make memory: append, copy, bytes of a string. -/
def eop2 (P : Program) (tm : List (Nat × AV)) (bl : Bls) (o : Op) : Option (Bool × AV × Bls) :=
  match o with
  | .call { callee := .builtin .append, args, argTypes } => (match args.toList, argTypes.toList with
    | [s, x], [t, u] => (match ti P t, ti P u with
      | some T, some U => (match T.kd with
        | .slice e sz by_ => (match ti P e with
          | some E => (match E.kd, E.zc with
            | .int k, some [.v (.int k' z)] => if k' = k then (if sz = 1 then (if by_ = 0 then none else match dstN k bl (ev tm s), srcN k z by_ U.kd bl (ev tm x) with
                | some (c1, l, olds), some (c2, news) => appNN k by_ c1 c2 l olds news bl (roomN bl (ev tm s))
                | _, _ => none) else none) else none
            | .int _, _ => none
            | _, some zc => if sz = 0 then none else if by_ = 0 then none else (if wids zc = sz then (match U.kd, srcR sz bl (ev tm x), zerR by_ zc (ev tm x) with
              | .slice _ _ _, some (c2, news, bl1), _ => (match dstR sz bl1 (ev tm s) with
                | some (c1, l, olds) => appRR sz by_ c1 c2 l olds news bl1 (roomR bl1 (ev tm s))
                | none => none)
              | .int _, _, some (c2, news) => (match dstR sz bl (ev tm s) with
                | some (c1, l, olds) => appRR sz by_ c1 c2 l olds news bl (roomR bl (ev tm s))
                | none => none)
              | _, _, _ => none) else none)
            | _, _ => none)
          | none => none)
        | _ => none)
      | _, _ => none)
    | _, _ => none)
  | .call { callee := .builtin .copy, args, argTypes } => (match args.toList, argTypes.toList with
    | [d, x], [t, u] => (match ti P t, ti P u with
      | some T, some U => (match T.kd, T.ik with
        | .slice _ sz _, some k => if sz = 1 then (match ev tm d with
          | .sl l i w n _ => if w = 1 then (match cpSrcN k U.kd bl (ev tm x), lvl bl l with
              | some (m, news), some (.num k' xs) => if k' = k then some (decide (min m n ≤ news.length) && decide (i ≤ xs.length), .v (.int .i64 (min m n : Nat)), setl bl l (some (.num k (xs.take i ++ (news.take (min m n) ++ xs.drop (i + min m n)))))) else none
              | some (m, news), some (.lit cs) => if n = 0 then none else (match chR cs i k n (fun xs => news.take (min m n) ++ xs.drop (min m n)) with
                | some r => some (decide (min m n ≤ news.length), .v (.int .i64 (min m n : Nat)), setl bl l (some (.lit r)))
                | none => none)
              | _, _ => none) else none
          | _ => none) else none
        | .slice _ sz _, none => if sz = 0 then none else cpR sz bl (ev tm d) (ev tm x)
        | _, _ => none)
      | _, _ => none)
    | _, _ => none)
  | .call { callee := .builtin .clear, args, argTypes } => (match args.toList, argTypes.toList with
    | [x], [t] => (match ti P t with
      | some T => (match T.kd with
        | .slice e sz _ => if sz = 0 then none else (match ti P e with
          | some E => (match E.zc with
            | some zc => if wids zc = sz then (match E.kd, zc with
              | .int k, [.v (.int k' _)] => if k' = k ∧ sz = 1 then clN k bl (ev tm x) else none
              | .int _, _ => none
              | _, _ => clR sz bl (ev tm x)) else none
            | none => none)
          | none => none)
        | _ => none)
      | none => none)
    | _, _ => none)
  | .convert src dst x => (match ti P src, ti P dst with
    | some S, some D => (match S.kd, D.kd, D.ik with
      | .str, .slice _ sz _, some .u8 => if sz = 1 then (match ev tm x with
        | .v (.string s) => some (true, .sl bl.length 0 1 (bytesL s).length none, bl ++ [some (.num .u8 (bytesL s))])
        | _ => none) else none
      | .slice _ _ _, .slice _ sz _, some .u8 => if src = dst then (if sz = 1 then (match ev tm x with
        | .sl l i w n c => if n = 0 then none else (match lvl bl l with
          | some b => if (b.cell && !spz b) = true then some (true, .sl l i w n c, bl) else none
          | none => none)
        | _ => none) else none) else none
      | _, _, _ => none)
    | _, _ => none)
  | _ => none

section
variable {P : Program} {β : Env} {tm : List (Nat × AV)} {ρ : Operand → Value} {o : Oper} {vc : Bool} {r : AV} {bl bl' : Bls} {w : World}

/-- A level written, more or less of it told than before. -/
theorem Heap.write2 {l b s : Nat} {c c' : Ct} {ys ys' sp' : List Value} {T : TypeId} {fz : Nat × Nat} (h : Heap β bl w) (hl : bl[l]? = some (some c)) (hb : β.b[l]? = some (some (b, s)))
    (hg : w.heap[b]? = some (.cells ys.toArray T fz)) (hs : ys'.length + sp'.length = s) (hsp : ∀ x ∈ sp', SpV (spk c') x) (hfz : FzOk (spz c') fz s) (hc : CsDen β c' ys') :
    Ext β bl w β (bl.set l (some c')) (w.setRow b (ys' ++ sp').toArray) := by
  have hllt : l < bl.length := (List.getElem?_eq_some_iff.1 hl).1
  have get : ∀ {m : Nat} {c0 : Ct}, (bl.set l (some c'))[m]? = some (some c0) → (m = l ∧ c0 = c') ∨ (m ≠ l ∧ bl[m]? = some (some c0)) := by
    intro m c0 hm
    rw [List.getElem?_set] at hm
    split at hm
    · rename_i e
      subst e
      try rw [if_pos hllt] at hm
      exact .inl ⟨rfl, (Option.some.inj (Option.some.inj hm)).symm⟩
    · rename_i e
      exact .inr ⟨fun h => e h.symm, hm⟩
  have old : ∀ {m : Nat} {c0 : Ct}, (bl.set l (some c'))[m]? = some (some c0) → ∃ c1, bl[m]? = some (some c1) := by
    intro m c0 hm
    rcases get hm with ⟨rfl, -⟩ | ⟨-, h⟩
    · exact ⟨c, hl⟩
    · exact ⟨c0, h⟩
  have ownk : ∀ b', Owned β (bl.set l (some c')) b' → Owned β bl b' := by
    rintro b' ⟨m, c0, s', hm, hb'⟩
    obtain ⟨c1, h1⟩ := old hm
    exact ⟨m, c1, s', h1, hb'⟩
  refine ⟨.refl _, ⟨by simpa using h.len, fun m c0 hm => ?_, fun m m' c0 c1 b0 s0 s1 hne h1 h2 => ?_, fun t b' cs' hz => ?_⟩, ⟨rfl, rfl, rfl, ?_, fun b' _ hno => ?_⟩, fun b' hb' => .inl (ownk b' hb'), fun b' cs' hz => .inl hz, rfl⟩
  · rcases get hm with ⟨rfl, rfl⟩ | ⟨hne, hm⟩
    · exact ⟨_, hb, .inl ⟨csDen_cell hc, ys', sp', T, fz, setRow_heap w b _ _ _ _ hg, hs, hc, hsp, hfz⟩⟩
    · obtain ⟨base, e, hin⟩ := h.lv m c0 hm
      refine ⟨base, e, hin.same fun b' s' hb' => ?_⟩
      subst hb'
      exact setRow_other w b b' _ (fun e3 => h.sep l m c c0 b s s' (fun e4 => hne e4.symm) hl hm hb (by rw [e, e3]))
  · obtain ⟨c2, g1⟩ := old h1
    obtain ⟨c3, g2⟩ := old h2
    exact h.sep m m' c2 c3 b0 s0 s1 hne g1 g2
  · obtain ⟨⟨T', fz', e⟩, hno⟩ := h.frz t b' cs' hz
    refine ⟨⟨T', fz', ?_⟩, fun ho => hno (ownk b' ho)⟩
    rw [setRow_other w b b' _ (fun e3 => hno ⟨l, c, s, hl, e3 ▸ hb⟩)]
    exact e
  · show w.heap.size ≤ (w.heap.modify b _).size
    rw [Array.size_modify]; exact Nat.le_refl _
  · refine setRow_other w b b' _ (fun e => hno ⟨l, c, s, hl, ?_⟩)
    rw [e]; exact hb

/-- A level under a new name. -/
theorem Heap.rename {l : Nat} {c : Ct} {base : Option (Nat × Nat)} (h : Heap β bl w) (hl : bl[l]? = some (some c)) (hb : β.b[l]? = some base) :
    Ext β bl w { β with b := β.b ++ [base] } (bl.set l none ++ [some c]) w := by
  have le : β.le { β with b := β.b ++ [base] } := ⟨List.prefix_append _ _, fun _ _ e => e, fun _ _ e => e, rfl⟩
  have hlen := h.len
  have get : ∀ {m : Nat} {c' : Ct}, (bl.set l none ++ [some c])[m]? = some (some c') → (m < bl.length ∧ m ≠ l ∧ bl[m]? = some (some c')) ∨ (m = bl.length ∧ c' = c) := by
    intro m c' hm
    by_cases hlt : m < bl.length
    · rw [List.getElem?_append_left (by simpa using hlt)] at hm
      obtain ⟨h1, h2⟩ := get_kill hm
      exact .inl ⟨hlt, h1, h2⟩
    · have hmm : m = bl.length := by
        have := (List.getElem?_eq_some_iff.1 hm).1
        simp at this; omega
      subst hmm
      rw [List.getElem?_append_right (by simp)] at hm
      simp at hm
      exact .inr ⟨rfl, hm.symm⟩
  have gb : ∀ {m : Nat} {x}, m < bl.length → (β.b ++ [base])[m]? = some x → β.b[m]? = some x := by
    intro m x hm hx
    rwa [List.getElem?_append_left (by omega)] at hx
  have gn : (β.b ++ [base])[bl.length]? = some base := by rw [← hlen]; simp
  have ownk : ∀ b', Owned { β with b := β.b ++ [base] } (bl.set l none ++ [some c]) b' → Owned β bl b' := by
    rintro b' ⟨m, c', s', hm, hb'⟩
    rcases get hm with ⟨hlt, -, h0⟩ | ⟨rfl, rfl⟩
    · exact ⟨m, c', s', h0, gb hlt hb'⟩
    · simp only at hb'; rw [gn] at hb'
      exact ⟨l, _, s', hl, by rw [hb]; exact hb'⟩
  refine ⟨le, ⟨by simp [hlen], fun m c' hm => ?_, fun m m' c1 c2 b1 s1 s2 hne h1 h2 hb1 hb2 => ?_, fun t b' cs' hz => ?_⟩, .refl _ _, fun b' hb' => .inl (ownk b' hb'), fun b' cs' hz => .inl hz, rfl⟩
  · rcases get hm with ⟨hlt, -, h0⟩ | ⟨rfl, rfl⟩
    · obtain ⟨base', hbase, hin⟩ := h.lv m c' h0
      exact ⟨base', by simp only; rw [List.getElem?_append_left (by omega)]; exact hbase, hin.mono le⟩
    · obtain ⟨base', hbase, hin⟩ := h.lv l _ hl
      rw [hb] at hbase
      cases hbase
      exact ⟨base, gn, hin.mono le⟩
  · rcases get h1 with ⟨l1, n1, g1⟩ | ⟨rfl, rfl⟩ <;> rcases get h2 with ⟨l2, n2, g2⟩ | ⟨rfl, rfl⟩
    · exact h.sep m m' c1 c2 b1 s1 s2 hne g1 g2 (gb l1 hb1) (gb l2 hb2)
    · simp only at hb2; rw [gn] at hb2
      exact h.sep m l c1 c2 b1 s1 s2 n1 g1 hl (gb l1 hb1) (by rw [hb]; exact hb2)
    · simp only at hb1; rw [gn] at hb1
      exact h.sep l m' c1 c2 b1 s1 s2 (fun e => n2 e.symm) hl g2 (by rw [hb]; exact hb1) (gb l2 hb2)
    · exact absurd rfl hne
  · have hz' : β.fz t b' = some cs' := by cases t <;> exact hz
    exact ⟨(h.frz t b' cs' hz').1, fun ho => (h.frz t b' cs' hz').2 (ownk b' ho)⟩

/-- What is handed over, in a world: how many, which cells. -/
def Src (P : Program) (u e : TypeId) (size by_ : Nat) (x : Value) (m : Nat) (news : List Value) (w : World) : Prop :=
  (∃ d, P.underlying u = some d ∧ ∀ k, d ≠ .int k) ∧ (∀ w' : World, (Builtin.lenOf x).run P w' = .ok m w') ∧ (∀ w' : World, w'.heap = w.heap → (Builtin.firstCells size m x).run P w' = .ok news.toArray w') ∨
  (∃ k, P.underlying u = some (.int k)) ∧ (∃ k', x = .int k' m) ∧ m < 9223372036854775808 ∧ m * by_ ≤ 281474976710656 ∧ ∃ z : Value, (∀ w' : World, (zeroValue e).run P w' = .ok z w') ∧ news.toArray = Builtin.zeroCells z.cells m ∧ size ≠ 0

theorem cells_read {A : Option Addr} {m q size : Nat} {vs : List Value} (hq : m ≤ q) (hl : vs.length = m * size) (hA : q ≠ 0 → ∃ b o, A = some ⟨b, o, none⟩ ∧ InW w b o vs) :
    ∀ w' : World, w'.heap = w.heap → (Builtin.firstCells size m (.slice A m q)).run P w' = .ok vs.toArray w' := by
  intro w' hw'
  by_cases hm : m = 0
  · subst hm
    have : vs = [] := List.length_eq_zero_iff.1 (by omega)
    subst this
    cases A with
    | none => simp [Builtin.firstCells]
    | some A => simp [Builtin.firstCells, loadCells, loadCellsFrom]
  · obtain ⟨b, o0, rfl, hi⟩ := hA (by omega)
    have hi' : InW w' b o0 vs := by obtain ⟨cs, T, fz, h1, h2⟩ := hi; exact ⟨cs, T, fz, by rw [hw']; exact h1, h2⟩
    have := loadCells_inW (P := P) hi'
    rw [hl] at this
    simpa [Builtin.firstCells] using this

theorem append_room {t u ty e : TypeId} {i : TypeInfo} (ht : P.underlying t = some (.slice e)) (hi : P.info? e = some i)
    {g n c m by_ : Nat} {x : Value} {U : TypeId} {fz : Nat × Nat} {ys news : List Value} (hby : i.bytes = by_) (hg : w.heap[g]? = some (.cells ys.toArray U fz)) (hfz : ∀ j, fz.1 ≤ j → j < fz.2 → ys.length ≤ j)
    (hsrc : Src P u e i.size by_ x m news w) (hl : news.length = m * i.size) (h1 : ∀ v ∈ news, one v = true) (hroom : n + m ≤ c) (hfit : n * i.size + m * i.size ≤ ys.length) :
    (Builtin.append_ #[t, u] ty #[.slice (some ⟨g, 0, none⟩) n c, x]).run P w =
      .ok (.slice (some ⟨g, 0, none⟩) (n + m) c) (w.setRow g (ys.take (n * i.size) ++ (news ++ ys.drop (n * i.size + m * i.size))).toArray) := by
  have hst := storeCells_run (P := P) g (n * i.size) U fz news 0 ys.toArray w hg (by simpa using hfz) (by simp [hl]; omega) h1
  rcases hsrc with ⟨⟨d, hd, hnd⟩, hlen, hf⟩ | ⟨⟨k, hd⟩, ⟨k', rfl⟩, h63, h48, z, hz, hn, hs0⟩
  · have hlen := hlen w
    have hf := hf w rfl
    have hz2 : ∀ {α : Type} (A B : α), (match d with | .int _ => A | _ => B) = B := by intro α A B; cases d <;> first | rfl | exact absurd rfl (hnd _)
    simp [Builtin.append_, underlying_run w ht, underlying_run w hd, hz2, sizeOf, typeInfo, hi, hlen, hroom, hf, add_lit, hst, hl]
  · have w1 : IntKind.i64.wrap (m : Int) = m := wrap64_id (z := (m : Int)) (by simp only [inK, Bool.and_eq_true, decide_eq_true_eq]; omega)
    have c1 : ¬ ((m : Int) < 0) := by omega
    have c2 : ¬ (281474976710656 < (m : Int) * (i.bytes : Int)) := by
      have : ((m * by_ : Nat) : Int) ≤ ((281474976710656 : Nat) : Int) := Int.ofNat_le.2 h48
      rw [Int.natCast_mul] at this
      rw [hby]; omega
    by_cases hm0 : m * i.size = 0
    · have hm : m = 0 := by
        rcases Nat.mul_eq_zero.1 hm0 with h | h
        · exact h
        · exact absurd h hs0
      subst hm
      have hnn : news = [] := List.length_eq_zero_iff.1 (by omega)
      subst hnn
      have hst' : (storeCells ⟨g, n * i.size, none⟩ []).run P w = .ok () w := by simp [storeCells]
      have e0 : IntKind.i64.wrap (0 : Int) = 0 := by decide
      have hse : w.setRow g (ys.take (n * i.size) ++ ([] ++ ys.drop (n * i.size + 0 * i.size))).toArray = w := by
        simp only [List.nil_append, Nat.zero_mul, Nat.add_zero, List.take_append_drop]
        exact setRow_self w g ys.toArray U fz hg
      rw [hse]
      have hroom' : n ≤ c := by omega
      simp [Builtin.append_, underlying_run w ht, underlying_run w hd, sizeOf, typeInfo, hi, asInt, asIntOf, e0, hroom', add_lit, hst']
    · have hz' := hz w
      have hnl : (Builtin.zeroCells z.cells m).toList = news := by rw [← hn]
      have hroom' : n + m ≤ c := hroom
      simp [Builtin.append_, underlying_run w ht, underlying_run w hd, sizeOf, typeInfo, hi, asInt, asIntOf, w1, c1, c2, hroom', add_lit, hm0, hz', hnl, hst, hl]

theorem append_grow {t u ty e : TypeId} {i : TypeInfo} {z : Value} (ht : P.underlying t = some (.slice e)) (hi : P.info? e = some i) (hzz : i.zero = some z)
    {A : Option Addr} {n c m by_ : Nat} {x : Value} {olds news : List Value} (hby : i.bytes = by_) (hold : ∀ w' : World, w'.heap = w.heap → (Builtin.firstCells i.size n (.slice A n c)).run P w' = .ok olds.toArray w')
    (hsrc : Src P u e i.size by_ x m news w) (hg : c < n + m) (h63 : n + m ≤ 9223372036854775807) (hfit : Builtin.nextslicecap (n + m) c * i.bytes ≤ 281474976710656) :
    ∃ q, n + m ≤ q ∧ q ≤ 9223372036854775807 ∧ (Builtin.append_ #[t, u] ty #[.slice A n c, x]).run P w =
      .ok (.slice (some ⟨w.heap.size, 0, none⟩) (n + m) q) (w.drew.alloc (.cells (olds.toArray ++ (news.toArray ++ Builtin.zeroCells z.cells (q - (n + m)))) e)) := by
  have hfo := hold w.drew rfl
  have hn : ¬ (n + m ≤ c) := by omega
  have h63' : ¬ (9223372036854775807 < ((n : Int) + (m : Int))) := by omega
  have h48' : ¬ (281474976710656 < Builtin.nextslicecap (n + m) c * i.bytes) := by omega
  refine ⟨(Question.appendCap (n + m) c e).cut (w.tape w.drawn (.appendCap (n + m) c e)), ?_, ?_, ?_⟩
  · simp only [Question.cut]; omega
  · simp only [Question.cut]
    have : 2 ^ 63 = 9223372036854775808 := by decide
    have hm := Nat.mod_lt (w.tape w.drawn (.appendCap (n + m) c e)) (show 2 ^ 63 - (n + m) > 0 by omega)
    omega
  · rcases hsrc with ⟨⟨d, hd, hnd⟩, hlen, hf⟩ | ⟨⟨k, hd⟩, ⟨k', rfl⟩, hm63, h48, z', hz, hnn, hs0⟩
    · have hlen := hlen w
      have hf := hf w.drew rfl
      have hz2 : ∀ {α : Type} (A B : α), (match d with | .int _ => A | _ => B) = B := by intro α A B; cases d <;> first | rfl | exact absurd rfl (hnd _)
      simp [Builtin.append_, underlying_run w ht, underlying_run w hd, hz2, sizeOf, typeInfo, zeroValue, hi, hzz, hlen, hn, h63', h48', Question.forced, hf, hfo, newRow]
    · have w1 : IntKind.i64.wrap (m : Int) = m := wrap64_id (z := (m : Int)) (by simp only [inK, Bool.and_eq_true, decide_eq_true_eq]; omega)
      have c1 : ¬ ((m : Int) < 0) := by omega
      have c2 : ¬ (281474976710656 < (m : Int) * (i.bytes : Int)) := by
        have : ((m * by_ : Nat) : Int) ≤ ((281474976710656 : Nat) : Int) := Int.ofNat_le.2 h48
        rw [Int.natCast_mul] at this
        rw [hby]; omega
      have hzv : z' = z := by
        have h1 := hz w
        have h2 : (zeroValue e).run P w = .ok z w := by simp [zeroValue, typeInfo, hi, hzz]
        rw [h2] at h1
        simp at h1; exact h1.symm
      subst hzv
      by_cases hm0 : m * i.size = 0
      · have hm : m = 0 := by
          rcases Nat.mul_eq_zero.1 hm0 with h | h
          · exact h
          · exact absurd h hs0
        subst hm
        have hne : news = [] := by
          have : news.toArray = #[] := by rw [hnn]; simp [Builtin.zeroCells]
          simpa using this
        subst hne
        have e0 : IntKind.i64.wrap (0 : Int) = 0 := by decide
        have hn' : ¬ (n ≤ c) := by omega
        have h63'' : ¬ (9223372036854775807 < (n : Int)) := by omega
        have h48'' : ¬ (281474976710656 < Builtin.nextslicecap n c * i.bytes) := h48'
        simp [Builtin.append_, underlying_run w ht, underlying_run w hd, sizeOf, typeInfo, zeroValue, hi, hzz, asInt, asIntOf, e0, hn', h63'', h48'', Question.forced, hfo, newRow]
      · simp [Builtin.append_, underlying_run w ht, underlying_run w hd, sizeOf, typeInfo, zeroValue, hi, hzz, asInt, asIntOf, w1, c1, c2, hn, h63', h48', Question.forced, hfo, newRow, hm0, ← hnn]

end

end Go.SY
