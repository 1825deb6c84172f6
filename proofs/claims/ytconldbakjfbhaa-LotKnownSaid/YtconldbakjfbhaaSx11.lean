/-
  The symbolic machine: the run; loops.
-/
import Derived.Test.YtconldbakjfbhaaSx10
set_option linter.unusedSimpArgs false
set_option linter.unusedVariables false
namespace Go.SX
open Go

section
variable {P : Program} {C : Ctx} {k : List It} {st : St} {R : St → Prop}

theorem go_sop {all : Array Oper} {o : Oper} {os : List Oper} {vc : Prop} {r : AV} {bl' : Bls} (hg : o.guard = none) (ho : sop P st.tm st.bl o.op = .det vc r bl') (hv : vc)
    (h : Go P C (.ops all os :: k) ⟨st.n, put st.n st.tm o.dst r, bl'⟩ R) : Go P C (.ops all (o :: os) :: k) st R :=
  go_op (K := fun r' b' => r' = r ∧ b' = bl') hg (fun β a w htm hh => by
    obtain ⟨y, w', β', h1, h2, h3, h4, h5, h6⟩ := sop_sound (w := w) htm hh ho hv
    exact ⟨y, w', β', r, bl', h1, h2, ⟨rfl, rfl⟩, h3, h4, h5.mono (fun _ h => h.owned), h6⟩) (fun r' b' ⟨e1, e2⟩ => by subst e1; subst e2; exact h)

/-- What an operation under a guard becomes. -/
def ung (o : Oper) (want b : Bool) : Oper := if want = b then { o with guard := none } else { o with guard := none, op := .move (.const undef) }

def run (P : Program) (C : Ctx) : Nat → List It → St → (St → Prop) → Prop
  | 0, k, st, R => Go P C k st R
  | _ + 1, [], st, R => R st
  | _ + 1, .fin I :: _, st, _ => I st
  | n + 1, .blk _ :: k, st, R => run P C n k st R
  | n + 1, .code c :: k, st, R => (match c with
    | .skip => run P C n k st R
    | .seq x y => run P C n (.code x :: .code y :: k) st R
    | .block id c => run P C n (.code c :: .blk id :: k) st R
    | .exit id => if hasBlk id k = true then run P C n (exitTo id k) st R else Go P C (.code (.exit id) :: k) st R
    | .ret => R st
    | .cond c x y => (match ev st.tm c with
      | .v (.bool b) => bsplit b (run P C n (.code x :: k) st R) (run P C n (.code y :: k) st R)
      | _ => Go P C (.code (.cond c x y) :: k) st R)
    | .region id all draw => (match draw with
      | false => run P C n (.ops all all.toList :: k) st R
      | true => Go P C (.code (.region id all true) :: k) st R)
    | c => Go P C (.code c :: k) st R)
  | n + 1, .ops all os :: k, st, R => (match os with
    | [] => run P C n k st R
    | o :: os => (match o.guard with
      | none => (match sop P st.tm st.bl o.op with
        | .det vc r bl => vc ∧ run P C n (.ops all os :: k) ⟨st.n, put st.n st.tm o.dst r, bl⟩ R
        | .stop => Go P C (.ops all (o :: os) :: k) st R)
      | some (j, want) => (match gdst all j with
        | some d => (match get st.tm d with
          | .v (.bool b) => if d < st.n then
              bsplit b (run P C n (.ops all (ung o want true :: os) :: k) ⟨st.n, (d, .v (.bool true)) :: st.tm, st.bl⟩ R)
                (run P C n (.ops all (ung o want false :: os) :: k) ⟨st.n, (d, .v (.bool false)) :: st.tm, st.bl⟩ R)
              else Go P C (.ops all (o :: os) :: k) st R
          | _ => Go P C (.ops all (o :: os) :: k) st R)
        | none => Go P C (.ops all (o :: os) :: k) st R)))

theorem run_sound : ∀ (n : Nat) (k : List It) (st : St), run P C n k st R → Go P C k st R := by
  intro n
  induction n with
  | zero => intro k st h; exact h
  | succ n ih =>
    intro k st h
    cases k with
    | nil => exact go_nil h
    | cons x k =>
      cases x with
      | fin I => exact go_fin h
      | blk id => exact go_blk (ih k st h)
      | code c =>
        cases c <;> simp only [run] at h
        case skip => exact go_skip (ih _ _ h)
        case seq x y => exact go_seq (ih _ _ h)
        case block id c => exact go_block (ih _ _ h)
        case exit id =>
          split at h
          · rename_i hb; exact go_exit hb (ih _ _ h)
          · exact h
        case ret => exact go_ret h
        case cond c x y =>
          split at h
          · rename_i b he
            exact go_cond he ⟨fun e => ih _ _ (h.1 e), fun e => ih _ _ (h.2 e)⟩
          · exact h
        case region id all draw =>
          cases draw with
          | false => exact go_region (ih _ _ h)
          | true => exact h
        all_goals exact h
      | ops all os =>
        cases os with
        | nil => exact go_ops_nil (ih _ _ h)
        | cons o os =>
          simp only [run] at h
          split at h
          · rename_i hg
            split at h
            · rename_i vc r bl ho
              exact go_sop hg ho h.1 (ih _ _ h.2)
            · exact h
          · rename_i j want hg
            split at h
            · rename_i d hd
              split at h
              · rename_i b hb
                split at h
                · rename_i hlt
                  refine go_guard hg hd hlt hb ⟨fun e => ?_, fun e => ?_⟩
                  · exact ih _ _ (h.1 e)
                  · exact ih _ _ (h.2 e)
                · exact h
              · exact h
            · exact h

/-! ### loops -/
def idx : List Nat → Nat → Option Nat
  | [], _ => none
  | a :: r, x => if a = x then some 0 else (match idx r x with
    | some i => some (i + 1)
    | none => none)

theorem idx_get : ∀ {lv : List Nat} {x i : Nat}, idx lv x = some i → lv[i]? = some x
  | [], _, _, h => by simp [idx] at h
  | a :: r, x, i, h => by
    simp only [idx] at h
    split at h
    · rename_i e; obtain rfl := Option.some.inj h; simp [e]
    · split at h
      · rename_i j hj
        obtain rfl := Option.some.inj h
        simpa using idx_get hj
      · cases h

/-- Levels named anew: those of lv, in its order. -/
def rl1 (lv : List Nat) : AV → AV
  | .ptr l i w k => (match idx lv l with
    | some j => .ptr j i w k
    | none => .any)
  | .sl l i w n c => (match idx lv l with
    | some j => .sl j i w n c
    | none => .any)
  | .v x => .v x
  | .nil => .nil
  | .ch n xs => .ch n xs
  | _ => .any

/-- The same in a cell: what a function value has captured stays. -/
def rlc (lv : List Nat) : AV → AV
  | .fn f xs ys => .fn f (xs.map (rl1 lv)) (ys.map (rl1 lv))
  | x => rl1 lv x

def rl (lv : List Nat) : AV → AV
  | .agg xs => .agg (xs.map (rlc lv))
  | x => rlc lv x

def rlB (lv : List Nat) : Blk → Blk
  | ⟨o, t, .lit cs⟩ => ⟨o, t, .lit (cs.map (rlc lv))⟩
  | B => B

def pickL (lv : List Nat) (bl : Bls) : List Nat → Bls
  | [] => []
  | l :: r => (match lvl bl l with
    | some B => some (rlB lv B)
    | none => none) :: pickL lv bl r

def keep (lv : List Nat) (tm : List (Nat × AV)) : List Nat → List (Nat × AV)
  | [] => []
  | s :: r => (s, rl lv (get tm s)) :: keep lv tm r

/-- Only the slots of live, and the levels of lv, are still known. -/
def norm (live lv : List Nat) (st : St) : St := ⟨st.n, keep lv st.tm live, pickL lv st.bl lv⟩

def sel (lv : List Nat) (β : Env) : Env := lv.map fun l => (β[l]?).getD none

section
variable {β : Env} {lv : List Nat}

theorem sel_get {l j : Nat} (h : idx lv l = some j) {x : Option (Nat × Nat)} (hx : β[l]? = some x) : (sel lv β)[j]? = some x := by
  simp [sel, idx_get h, hx]

theorem den_rl1 {x : AV} {y : Value} (h : Den β x y) : Den (sel lv β) (rl1 lv x) y := by
  cases x with
  | ptr l i w k =>
    simp only [rl1]
    split
    · rename_i j hj
      simp only [Den] at h ⊢
      obtain ⟨b, o, hb, e⟩ := h
      exact ⟨b, o, sel_get hj hb, e⟩
    · simp only [Den]
  | sl l i w n c =>
    simp only [rl1]
    split
    · rename_i j hj
      simp only [Den] at h ⊢
      obtain ⟨A, e, hn, hc⟩ := h
      refine ⟨A, e, hn, fun h0 => ?_⟩
      obtain ⟨b, o, hb, e⟩ := hc h0
      exact ⟨b, o, sel_get hj hb, e⟩
    · simp only [Den]
  | v x => simpa only [rl1, Den] using h
  | nil => simpa only [rl1, Den] using h
  | ch n xs => simpa only [rl1, Den] using h
  | _ => simp only [rl1, Den]

theorem denL_rl1 : ∀ {xs : List AV} {ys : List Value}, DenL β xs ys → DenL (sel lv β) (xs.map (rl1 lv)) ys
  | [], _, h => by simpa only [List.map_nil, DenL] using h
  | x :: xs, _, h => by
    simp only [DenL] at h
    obtain ⟨y, zs, rfl, h1, h2⟩ := h
    simp only [List.map_cons, DenL]
    exact ⟨y, zs, rfl, den_rl1 h1, denL_rl1 h2⟩

theorem cellDen_rlc {x : AV} {ps : List Value} (h : CellDen β x ps) : CellDen (sel lv β) (rlc lv x) ps := by
  cases x with
  | ptr l i w k =>
    simp only [rlc, rl1]
    simp only [CellDen] at h
    obtain ⟨y, rfl, b, o, hb, rfl⟩ := h
    split
    · rename_i j hj
      simp only [CellDen]
      exact ⟨_, rfl, b, o, sel_get hj hb, rfl⟩
    · simp only [CellDen]
      exact ⟨_, rfl, rfl⟩
  | sl l i w n c =>
    simp only [rlc, rl1]
    simp only [CellDen] at h
    obtain ⟨y, rfl, A, rfl, hn, hc⟩ := h
    split
    · rename_i j hj
      simp only [CellDen]
      refine ⟨_, rfl, A, rfl, hn, fun h0 => ?_⟩
      obtain ⟨b, o, hb, e⟩ := hc h0
      exact ⟨b, o, sel_get hj hb, e⟩
    · simp only [CellDen]
      exact ⟨_, rfl, rfl⟩
  | fn f a b =>
    simp only [rlc]
    simp only [CellDen] at h ⊢
    obtain ⟨y, rfl, xs, ys, rfl, h1, h2⟩ := h
    exact ⟨_, rfl, xs, ys, rfl, denL_rl1 h1, denL_rl1 h2⟩
  | v x => simpa only [rlc, rl1, CellDen] using h
  | nil => simpa only [rlc, rl1, CellDen] using h
  | ch n xs => simpa only [rlc, rl1, CellDen] using h
  | any => simpa only [rlc, rl1, CellDen] using h
  | agg xs => simp only [CellDen] at h
  | tup xs => simp only [CellDen] at h

theorem denC_rlc : ∀ {xs : List AV} {ys : List Value}, DenC β xs ys → DenC (sel lv β) (xs.map (rlc lv)) ys
  | [], _, h => by simpa only [List.map_nil, DenC] using h
  | x :: xs, _, h => by
    simp only [DenC] at h
    obtain ⟨ps, zs, rfl, h1, h2⟩ := h
    simp only [List.map_cons, DenC]
    exact ⟨ps, zs, rfl, cellDen_rlc h1, denC_rlc h2⟩

theorem den_rl {x : AV} {y : Value} (h : Den β x y) : Den (sel lv β) (rl lv x) y := by
  cases x with
  | agg xs =>
    simp only [rl, Den] at h ⊢
    obtain ⟨ys, e, h1⟩ := h
    exact ⟨ys, e, denC_rlc h1⟩
  | fn f a b =>
    simp only [rl, rlc]
    simp only [Den] at h ⊢
    obtain ⟨xs, ys, e, h1, h2⟩ := h
    exact ⟨xs, ys, e, denL_rl1 h1, denL_rl1 h2⟩
  | _ => exact den_rl1 h

theorem blkIn_rlB {w : World} {base : Option (Nat × Nat)} {B : Blk} (h : BlkIn β w base B) : BlkIn (sel lv β) w base (rlB lv B) := by
  obtain ⟨o, t, c⟩ := B
  obtain ⟨ys, h1, h2⟩ := h
  cases c with
  | lit cs => exact ⟨ys, denC_rlc h1, h2⟩
  | num k xs => exact ⟨ys, h1, h2⟩
  | arr w rs => exact ⟨ys, h1, h2⟩

end

theorem rlB_own (lv : List Nat) (B : Blk) : (rlB lv B).own = B.own := by
  obtain ⟨o, t, c⟩ := B
  cases c <;> rfl

theorem get_keep {lv : List Nat} {tm : List (Nat × AV)} : ∀ (live : List Nat) (s : Nat), get (keep lv tm live) s = .any ∨ get (keep lv tm live) s = rl lv (get tm s)
  | [], s => .inl rfl
  | a :: r, s => by
    simp only [keep, get]
    split
    · rename_i e; rw [e]; exact .inr rfl
    · exact get_keep r s

theorem pickL_get {lv : List Nat} {bl : Bls} : ∀ {ls : List Nat} {j : Nat} {B : Blk}, (pickL lv bl ls)[j]? = some (some B) → ∃ l B0, ls[j]? = some l ∧ bl[l]? = some (some B0) ∧ B = rlB lv B0
  | [], j, B, h => by simp [pickL] at h
  | l :: r, 0, B, h => by
    simp only [pickL, List.getElem?_cons_zero, Option.some.injEq] at h
    split at h
    · rename_i B0 h0
      exact ⟨l, B0, rfl, lvl_get h0, (Option.some.inj h).symm⟩
    · cases h
  | l :: r, j + 1, B, h => by
    simp only [pickL, List.getElem?_cons_succ] at h
    obtain ⟨l', B0, h1, h2, h3⟩ := pickL_get h
    exact ⟨l', B0, by simpa using h1, h2, h3⟩

theorem pickL_len {lv : List Nat} {bl : Bls} : ∀ ls : List Nat, (pickL lv bl ls).length = ls.length
  | [] => rfl
  | _ :: r => by simp [pickL, pickL_len r]

/-- May these levels be kept? -/
def okLv (n0 m : Nat) (lv : List Nat) : Bool := decide lv.Nodup && (lv.all (fun l => decide (l < m)) && (List.range n0).isPrefixOf lv)

theorem Rel.norm {β : Env} {a : Act} {w : World} {live lv : List Nat} (hr : Rel C st β a w) (hok : okLv C.bl0.length st.bl.length lv = true) :
    Rel C (norm live lv st) (sel lv β) a w := by
  simp only [okLv, Bool.and_eq_true, decide_eq_true_eq, List.all_eq_true] at hok
  obtain ⟨hnd, hall, hpre⟩ := hok
  have hpre := List.isPrefixOf_iff_prefix.1 hpre
  have hlen := hr.heap.len
  have hlt : ∀ l ∈ lv, l < β.length := fun l hl => by rw [hlen]; exact hall l hl
  have back : ∀ {j : Nat} {x : Nat × Nat}, (sel lv β)[j]? = some (some x) → ∃ l, lv[j]? = some l ∧ β[l]? = some (some x) := by
    intro j x h
    simp only [sel, List.getElem?_map, Option.map_eq_some_iff] at h
    obtain ⟨l, h1, h2⟩ := h
    refine ⟨l, h1, ?_⟩
    have hl := hlt l (List.mem_of_getElem? h1)
    rw [List.getElem?_eq_getElem hl] at h2 ⊢
    simpa using h2
  refine ⟨⟨hr.tm.1, fun s => ?_⟩, ⟨?_, ?_, ?_⟩, ?_, hr.env0, ?_, hr.step, hr.defers⟩
  · show Den (sel lv β) (get (keep lv st.tm live) s) _
    rcases get_keep (lv := lv) (tm := st.tm) live s with h | h
    · rw [h]; simp only [Den]
    · rw [h]; exact den_rl (hr.tm.2 s)
  · show (sel lv β).length = (pickL lv st.bl lv).length
    rw [pickL_len]; simp [sel]
  · intro j B hB
    obtain ⟨l, B0, h1, h2, rfl⟩ := pickL_get hB
    obtain ⟨base, hbase, hin⟩ := hr.heap.lv l B0 h2
    refine ⟨base, by simp [sel, h1, hbase], blkIn_rlB hin⟩
  · intro j j' B B' b o b' o' hne h1 h2 ho hb hb'
    obtain ⟨l, B0, g1, g2, rfl⟩ := pickL_get h1
    obtain ⟨l', B0', g1', g2', rfl⟩ := pickL_get h2
    obtain ⟨m, e1, e2⟩ := back hb
    obtain ⟨m', e1', e2'⟩ := back hb'
    rw [g1] at e1; obtain rfl := Option.some.inj e1
    rw [g1'] at e1'; obtain rfl := Option.some.inj e1'
    refine hr.heap.sep l l' B0 B0' b o b' o' (fun e => hne ?_) g2 g2' (by rw [rlB_own] at ho; exact ho) e2 e2'
    subst e
    exact (List.getElem?_inj (List.getElem?_eq_some_iff.1 g1).1 hnd).1 (g1.trans g1'.symm)
  · obtain ⟨t, ht⟩ := hr.env
    have h0 := hr.env0
    obtain ⟨u, hu⟩ := hpre
    refine ⟨sel u β, ?_⟩
    rw [← hu]
    simp only [sel, List.map_append]
    congr 1
    apply List.ext_getElem?
    intro j
    rw [List.getElem?_map]
    by_cases hj : j < C.β0.length
    · rw [List.getElem?_range (by omega)]
      have : β[j]? = C.β0[j]? := by rw [← ht, List.getElem?_append_left hj]
      simp [this, hj]
    · rw [List.getElem?_eq_none (by omega), List.getElem?_eq_none (by simp; omega)]
      rfl
  · rintro b ⟨j, B, o, h1, h2, h3⟩
    obtain ⟨l, B0, g1, g2, rfl⟩ := pickL_get h1
    obtain ⟨m, e1, e2⟩ := back h3
    rw [g1] at e1; obtain rfl := Option.some.inj e1
    exact hr.own b ⟨l, B0, o, g2, by rw [rlB_own] at h2; exact h2, e2⟩

/-- Forget all but some slots and levels. -/
theorem go_norm (live lv : List Nat) (hok : okLv C.bl0.length st.bl.length lv = true) (h : Go P C k (norm live lv st) R) : Go P C k st R := fun _ a w hr =>
  h _ a w (hr.norm hok)

theorem least_nat (p : Nat → Prop) : ∀ n, p n → ∃ m, p m ∧ ∀ q, p q → m ≤ q := by
  intro n
  induction n using Nat.strongRecOn with
  | _ n ih =>
    intro hn
    by_cases h : ∃ q, q < n ∧ p q
    · obtain ⟨q, h1, h2⟩ := h
      exact ih q h1 h2
    · exact ⟨n, hn, fun q hq => Nat.le_of_not_lt fun hlt => h ⟨q, hlt, hq⟩⟩

/-- A loop: an invariant over the slots and levels that are kept, and a number that sinks. -/
theorem go_loop {c : Code} (live lv : List Nat) (I : St → Prop) (m : St → Nat) (hok : okLv C.bl0.length st.bl.length lv = true) (h0 : I (norm live lv st))
    (hr : ∀ s, I s → Go P C (.code c :: .fin (fun s' => ∃ lv', okLv C.bl0.length s'.bl.length lv' = true ∧ I (norm live lv' s') ∧ m (norm live lv' s') < m s) :: k) s R) :
    Go P C (.code (.loop c) :: k) st R := by
  refine go_norm live lv hok fun β a w hrel => ?_
  simp only [iwp]
  -- the invariant with its number
  let J : Nat → Act → World → Prop := fun n a w => ∃ s β, Rel C s β a w ∧ I s ∧ m s = n
  have least : ∀ a w, (∃ n, J n a w) → ∃ n, J n a w ∧ ∀ q, J q a w → n ≤ q := fun a w ⟨n, hn⟩ => least_nat (fun q => J q a w) n hn
  let μ : Act → World → Nat := fun a w => open Classical in if h : ∃ n, J n a w then Classical.choose (least a w h) else 0
  have hμ : ∀ a w, (∃ n, J n a w) → J (μ a w) a w := by
    intro a w h
    show J (open Classical in if h : ∃ n, J n a w then Classical.choose (least a w h) else 0) a w
    rw [dif_pos h]
    exact (Classical.choose_spec (least a w h)).1
  have hle : ∀ n a w, J n a w → μ a w ≤ n := by
    intro n a w h
    have hx : ∃ n, J n a w := ⟨n, h⟩
    show (open Classical in if h : ∃ n, J n a w then Classical.choose (least a w h) else 0) ≤ n
    rw [dif_pos hx]
    exact (Classical.choose_spec (least a w hx)).2 n h
  refine wp_loop (fun a w => ∃ n, J n a w) μ ⟨_, _, β, hrel, h0, rfl⟩ fun a w hI => ?_
  obtain ⟨s, β', h1, h2, h3⟩ := hμ a w hI
  have hgo := hr s h2 β' a w h1
  simp only [iwp] at hgo
  refine wp_mono hgo fun e a' w' he => ?_
  cases e with
  | normal =>
    obtain ⟨s', β'', g1, lv', g2, g3, g4⟩ := he
    have hJ : J (m (Go.SX.norm live lv' s')) a' w' := ⟨_, _, g1.norm g2, g3, rfl⟩
    exact ⟨⟨_, hJ⟩, by have := hle _ _ _ hJ; omega⟩
  | _ => exact he

end

end Go.SX
