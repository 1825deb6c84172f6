/-
  The symbolic machine: append on slices of numbers; a slice held against nil.
-/
import Derived.Test.YtconldbakjfbhaaSx16
import Derived.Laws.Append
set_option linter.unusedSimpArgs false
set_option linter.unusedVariables false
namespace Go.SX
open Go

/-- Numbers that are handed over. -/
def srcN (k : IntKind) (bl : Bls) : AV → Option (Prop × List Int)
  | .nil => some (True, [])
  | .sl l i w n _ => (match lvl bl l with
    | some B => (match B.ct with
      | .num k' xs => if k' = k then (if w = 1 then some (i + n ≤ xs.length, (xs.drop i).take n) else none) else none
      | _ => none)
    | none => none)
  | .v (.string s) => if k = .u8 then some (True, s.data.toList.map fun b => (b.toNat : Int)) else none
  | _ => none

/-- What is appended to: its level, its numbers, its capacity. -/
def dstN (e : TypeId) (k : IntKind) (bl : Bls) : AV → Option (Prop × Option Nat × List Int × Nat)
  | .nil => some (True, none, [], 0)
  | .sl l i w n c => (match lvl bl l with
    | some B => if B.own = true then (match B.ct with
      | .num k' xs => if k' = k then (if w = 1 then (if i = 0 then (if B.ty = e then some (c ≤ xs.length, some l, xs.take n, c) else none) else none) else none) else none
      | _ => none) else none
    | none => none)
  | _ => none

def killL (l : Option Nat) (bl : Bls) : Bls := match l with
  | some l => setl bl l none
  | none => bl

section
variable {P : Program} {β : Env} {n : Nat} {tm : List (Nat × AV)} {bl : Bls} {a : Act} {w : World} {o : Oper}

/-- What is handed over, in a world. -/
def Src (P : Program) (x : Value) (size m : Nat) (news : List Value) (w : World) : Prop :=
  (∀ w' : World, (Builtin.lenOf x).run P w' = .ok m w') ∧ ∀ w' : World, w'.heap = w.heap → (Builtin.firstCells size m x).run P w' = .ok news.toArray w'

theorem src_slice {A : Option Addr} {m c b o0 size p : Nat} {cs : Array Value} {T : TypeId} {fz : Nat × Nat} {ys : List Value} (hA : m ≠ 0 → A = some ⟨b, o0 + p, none⟩)
    (hg : w.heap[b]? = some (.cells cs T fz)) (hcs : ∀ j, j < ys.length → cs[o0 + j]? = ys[j]?) (hp : p + m * size ≤ ys.length) (hs : size ≠ 0) :
    Src P (.slice A m c) size m ((ys.drop p).take (m * size)) w := by
  refine ⟨fun w' => rfl, fun w' hw' => ?_⟩
  by_cases hm : m = 0
  · subst hm
    cases A with
    | none => simp [Builtin.firstCells]
    | some A => simp [Builtin.firstCells, loadCells, loadCellsFrom]
  · obtain rfl := hA hm
    have hl : ((ys.drop p).take (m * size)).length = m * size := by simp; omega
    have hload := run_loadCells_list (P := P) w' ⟨b, o0 + p, none⟩ ((ys.drop p).take (m * size)) (fun j v hj => by
      rw [add_lit, Nat.add_assoc]
      refine cell_of (w := w') (by rw [hw']; exact hg) hcs ?_
      have hjlt : j < m * size := by have := (List.getElem?_eq_some_iff.1 hj).1; omega
      rw [List.getElem?_take_of_lt hjlt, List.getElem?_drop] at hj
      exact hj)
    rw [hl] at hload
    simpa [Builtin.firstCells] using hload

theorem src_string {s : ByteArray} {size : Nat} : Src P (.string s) size s.size (s.data.toList.map fun b => Value.int .u8 b.toNat) w := by
  refine ⟨fun w' => rfl, fun w' _ => ?_⟩
  simp [Builtin.firstCells]
  apply Array.ext'
  simp

theorem append_room {t u ty e : TypeId} {i : TypeInfo} (ht : P.underlying t = some (.slice e)) (hu : ∃ d, P.underlying u = some d ∧ ∀ k, d ≠ .int k) (hi : P.info? e = some i)
    {g n c m : Nat} {x : Value} {U : TypeId} {fz : Nat × Nat} {ys news : List Value} (hg : w.heap[g]? = some (.cells ys.toArray U fz)) (hfz : ∀ j, fz.1 ≤ j → j < fz.2 → ys.length ≤ j)
    (hsrc : Src P x i.size m news w) (hl : news.length = m * i.size) (h1 : ∀ v ∈ news, one v = true) (hroom : n + m ≤ c) (hfit : n * i.size + m * i.size ≤ ys.length) :
    (Builtin.append_ #[t, u] ty #[.slice (some ⟨g, 0, none⟩) n c, x]).run P w =
      .ok (.slice (some ⟨g, 0, none⟩) (n + m) c) (w.setRow g (ys.take (n * i.size) ++ (news ++ ys.drop (n * i.size + m * i.size))).toArray) := by
  obtain ⟨d, hd, hnd⟩ := hu
  have hst := storeCells_run (P := P) g (n * i.size) U fz news 0 ys.toArray w hg (by simpa using hfz) (by simp [hl]; omega) h1
  have hlen := hsrc.1 w
  have hf := hsrc.2 w rfl
  have hz : (d matches .int _) = false := by cases d <;> first | rfl | exact absurd rfl (hnd _)
  have hz2 : ∀ {α : Type} (A B : α), (match d with | .int _ => A | _ => B) = B := by intro α A B; cases d <;> first | rfl | exact absurd rfl (hnd _)
  simp [Builtin.append_, underlying_run w ht, underlying_run w hd, hz2, sizeOf, typeInfo, hi, hlen, hroom, hf, add_lit, hst, hl]

theorem zeroCells_num {k : IntKind} {q : Nat} {z : Value} (hz : z.cells = #[.int k 0]) : Builtin.zeroCells z.cells q = (List.replicate q (Value.int k 0)).toArray := by
  rw [hz]
  apply Array.ext'
  simp only [Builtin.zeroCells, Array.toList_map, Array.toList_range]
  apply List.ext_getElem?
  intro j
  simp only [List.getElem?_map, List.size_toArray, List.length_cons, List.length_nil, Nat.zero_add, Nat.mul_one, Nat.mod_one]
  by_cases hj : j < q
  · simp [hj]
  · simp [hj]

theorem append_grow {t u ty e : TypeId} {i : TypeInfo} {z : Value} (ht : P.underlying t = some (.slice e)) (hu : ∃ d, P.underlying u = some d ∧ ∀ k, d ≠ .int k) (hi : P.info? e = some i) (hzz : i.zero = some z)
    {A : Option Addr} {n c m : Nat} {x : Value} {olds news : List Value} (hold : ∀ w' : World, w'.heap = w.heap → (Builtin.firstCells i.size n (.slice A n c)).run P w' = .ok olds.toArray w')
    (hsrc : Src P x i.size m news w) (hg : c < n + m) (h63 : n + m ≤ 9223372036854775807) (hfit : Builtin.nextslicecap (n + m) c * i.bytes ≤ 281474976710656) :
    ∃ q, n + m ≤ q ∧ q ≤ 9223372036854775807 ∧ (Builtin.append_ #[t, u] ty #[.slice A n c, x]).run P w =
      .ok (.slice (some ⟨w.heap.size, 0, none⟩) (n + m) q) (w.drew.alloc (.cells (olds.toArray ++ (news.toArray ++ Builtin.zeroCells z.cells (q - (n + m)))) e)) := by
  obtain ⟨d, hd, hnd⟩ := hu
  have hlen := hsrc.1 w
  have hf := hsrc.2 w.drew rfl
  have hfo := hold w.drew rfl
  have hz2 : ∀ {α : Type} (A B : α), (match d with | .int _ => A | _ => B) = B := by intro α A B; cases d <;> first | rfl | exact absurd rfl (hnd _)
  have hn : ¬ (n + m ≤ c) := by omega
  have h63' : ¬ (9223372036854775807 < ((n : Int) + (m : Int))) := by omega
  have h48' : ¬ (281474976710656 < Builtin.nextslicecap (n + m) c * i.bytes) := by omega
  refine ⟨(Question.appendCap (n + m) c e).cut (w.tape w.drawn (.appendCap (n + m) c e)), ?_, ?_, ?_⟩
  · simp only [Question.cut]; omega
  · simp only [Question.cut]
    have : 2 ^ 63 = 9223372036854775808 := by decide
    have hm := Nat.mod_lt (w.tape w.drawn (.appendCap (n + m) c e)) (show 2 ^ 63 - (n + m) > 0 by omega)
    omega
  · simp [Builtin.append_, underlying_run w ht, underlying_run w hd, hz2, sizeOf, typeInfo, zeroValue, hi, hzz, hlen, hn, h63', h48', Question.forced, hf, hfo, newRow]

/-- What append makes of numbers. -/
def AppNK (e : TypeId) (k : IntKind) (l : Option Nat) (pre : List Int) (bl : Bls) (r : AV) (bl' : Bls) : Prop :=
  ∃ (sp : List Int) (c : Nat), pre.length ≤ c ∧ c ≤ pre.length + sp.length ∧ c ≤ 9223372036854775807 ∧ r = .sl bl.length 0 1 pre.length c ∧
    bl' = killL l bl ++ [some ⟨true, e, .num k (pre ++ sp)⟩]

theorem killL_len (l : Option Nat) (bl : Bls) : (killL l bl).length = bl.length := by
  cases l with
  | none => rfl
  | some l => simp [killL, setl_set]

/-- A level forgotten. -/
theorem Heap.kill {l : Nat} (h : Heap β bl w) : Heap β (bl.set l none) w ∧ (∀ b, Owned β (bl.set l none) b → Owned β bl b) := by
  have get : ∀ {m : Nat} {B : Blk}, (bl.set l none)[m]? = some (some B) → bl[m]? = some (some B) := by
    intro m B hm
    rw [List.getElem?_set] at hm
    split at hm
    · split at hm <;> simp at hm
    · exact hm
  refine ⟨⟨by simpa using h.len, fun m B hm => h.lv m B (get hm), fun m m' B B' b o b' o' hne h1 h2 => h.sep m m' B B' b o b' o' hne (get h1) (get h2)⟩, ?_⟩
  rintro b ⟨m, B, o, h1, h2, h3⟩
  exact ⟨m, B, o, get h1, h2, h3⟩

/-- A block that was one's own, under a new name. -/
theorem Heap.rename {l b : Nat} {B : Blk} {c' : Ct} {ys : List Value} (h : Heap β bl w) (hl : bl[l]? = some (some B)) (hown : B.own = true) (hb : β[l]? = some (some (b, 0))) (hc : CtDen β c' ys)
    (hg : ∃ fz, w.heap[b]? = some (.cells ys.toArray B.ty fz) ∧ ∀ j, fz.1 ≤ j → j < fz.2 → ys.length ≤ j) :
    Heap (β ++ [some (b, 0)]) (bl.set l none ++ [some ⟨true, B.ty, c'⟩]) w ∧ (∀ b', Owned (β ++ [some (b, 0)]) (bl.set l none ++ [some ⟨true, B.ty, c'⟩]) b' → Owned β bl b') := by
  have hpre : β <+: β ++ [some (b, 0)] := List.prefix_append _ _
  have hlen := h.len
  have get : ∀ {m : Nat} {B' : Blk}, (bl.set l none ++ [some ⟨true, B.ty, c'⟩])[m]? = some (some B') → (m < bl.length ∧ m ≠ l ∧ bl[m]? = some (some B')) ∨ (m = bl.length ∧ B' = ⟨true, B.ty, c'⟩) := by
    intro m B' hm
    by_cases hlt : m < bl.length
    · rw [List.getElem?_append_left (by simpa using hlt), List.getElem?_set] at hm
      split at hm
      · split at hm <;> simp at hm
      · rename_i e; exact .inl ⟨hlt, fun e' => e e'.symm, hm⟩
    · have hmm : m = bl.length := by
        have := (List.getElem?_eq_some_iff.1 hm).1
        simp at this; omega
      subst hmm
      rw [List.getElem?_append_right (by simp)] at hm
      simp at hm
      exact .inr ⟨rfl, hm.symm⟩
  have gb : ∀ {m : Nat} {x}, m < bl.length → (β ++ [some (b, 0)])[m]? = some x → β[m]? = some x := by
    intro m x hm hx
    rwa [List.getElem?_append_left (by omega)] at hx
  have gn : ∀ {x}, (β ++ [some (b, 0)])[bl.length]? = some x → x = some (b, 0) := by
    intro x hx
    rw [← hlen] at hx
    simp at hx
    exact hx.symm
  refine ⟨⟨by simp [hlen], ?_, ?_⟩, ?_⟩
  · intro m B' hm
    rcases get hm with ⟨hlt, -, h0⟩ | ⟨rfl, rfl⟩
    · obtain ⟨base, hbase, hin⟩ := h.lv m B' h0
      exact ⟨base, by rw [List.getElem?_append_left (by omega)]; exact hbase, hin.mono hpre⟩
    · obtain ⟨fz, hg, hfz⟩ := hg
      exact ⟨some (b, 0), by rw [← hlen]; simp, ys, hc.mono hpre, ys.toArray, B.ty, fz, hg, fun j hj => by simp, fun _ => ⟨rfl, rfl, rfl, hfz⟩⟩
  · intro m m' B1 B2 b1 o1 b2 o2 hne h1 h2 ho hb1 hb2
    rcases get h1 with ⟨l1, n1, g1⟩ | ⟨rfl, rfl⟩ <;> rcases get h2 with ⟨l2, n2, g2⟩ | ⟨rfl, rfl⟩
    · exact h.sep m m' B1 B2 b1 o1 b2 o2 hne g1 g2 ho (gb l1 hb1) (gb l2 hb2)
    · have e := gn hb2
      simp only [Option.some.injEq, Prod.mk.injEq] at e
      rw [e.1]
      exact h.sep m l B1 B b1 o1 b 0 n1 g1 hl ho (gb l1 hb1) hb
    · have e := gn hb1
      simp only [Option.some.injEq, Prod.mk.injEq] at e
      rw [e.1]
      exact h.sep l m' B B2 b 0 b2 o2 (fun e => n2 e.symm) hl g2 hown hb (gb l2 hb2)
    · exact absurd rfl hne
  · rintro b' ⟨m, B', o', hm, ho, hb'⟩
    rcases get hm with ⟨hlt, -, h0⟩ | ⟨rfl, rfl⟩
    · exact ⟨m, B', o', h0, ho, gb hlt hb'⟩
    · have e := gn hb'
      simp only [Option.some.injEq, Prod.mk.injEq] at e
      exact ⟨l, B, 0, hl, hown, by rw [e.1]; exact hb⟩

/-- Nothing is there. -/
theorem Heap.empty (h : Heap β bl w) (ty : TypeId) {c : Ct} (hc : CtDen β c []) : Heap (β ++ [none]) (bl ++ [some ⟨true, ty, c⟩]) w ∧ (∀ b', Owned (β ++ [none]) (bl ++ [some ⟨true, ty, c⟩]) b' → Owned β bl b') := by
  have hpre : β <+: β ++ [none] := List.prefix_append _ _
  have hlen := h.len
  have get : ∀ {m : Nat} {B' : Blk}, (bl ++ [some ⟨true, ty, c⟩])[m]? = some (some B') → (m < bl.length ∧ bl[m]? = some (some B')) ∨ (m = bl.length ∧ B' = ⟨true, ty, c⟩) := by
    intro m B' hm
    by_cases hlt : m < bl.length
    · rw [List.getElem?_append_left hlt] at hm; exact .inl ⟨hlt, hm⟩
    · have hmm : m = bl.length := by
        have := (List.getElem?_eq_some_iff.1 hm).1
        simp at this; omega
      subst hmm
      simp at hm
      exact .inr ⟨rfl, hm.symm⟩
  have gb : ∀ {m : Nat} {x}, m < bl.length → (β ++ [none])[m]? = some x → β[m]? = some x := by
    intro m x hm hx
    rwa [List.getElem?_append_left (by omega)] at hx
  have gn : ∀ {x}, (β ++ [none])[bl.length]? = some x → x = none := by
    intro x hx
    rw [← hlen] at hx
    simp at hx
    exact hx.symm
  refine ⟨⟨by simp [hlen], ?_, ?_⟩, ?_⟩
  · intro m B' hm
    rcases get hm with ⟨hlt, h0⟩ | ⟨rfl, rfl⟩
    · obtain ⟨base, hbase, hin⟩ := h.lv m B' h0
      exact ⟨base, by rw [List.getElem?_append_left (by omega)]; exact hbase, hin.mono hpre⟩
    · exact ⟨none, by rw [← hlen]; simp, [], hc.mono hpre, rfl⟩
  · intro m m' B1 B2 b1 o1 b2 o2 hne h1 h2 ho hb1 hb2
    rcases get h1 with ⟨l1, g1⟩ | ⟨rfl, rfl⟩ <;> rcases get h2 with ⟨l2, g2⟩ | ⟨rfl, rfl⟩
    · exact h.sep m m' B1 B2 b1 o1 b2 o2 hne g1 g2 ho (gb l1 hb1) (gb l2 hb2)
    · have e := gn hb2; simp at e
    · have e := gn hb1; simp at e
    · exact absurd rfl hne
  · rintro b' ⟨m, B', o', hm, ho, hb'⟩
    rcases get hm with ⟨hlt, h0⟩ | ⟨rfl, rfl⟩
    · exact ⟨m, B', o', h0, ho, gb hlt hb'⟩
    · have e := gn hb'; simp at e

end

end Go.SX
