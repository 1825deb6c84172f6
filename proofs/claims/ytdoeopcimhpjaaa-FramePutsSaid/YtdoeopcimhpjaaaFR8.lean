/- Frames: a byte turned is seen by the check sum. -/
import Derived.Test.YtdoeopcimhpjaaaFR7
set_option linter.unusedSimpArgs false
set_option linter.unusedVariables false
namespace Go.Proofs.Ytdoeopcimhpjaaa
open Go Go.SY
def topB (i : Nat) : Nat := crcB 8 i / 16777216
def topsB : Bool := (List.range 256).all fun i => (List.range 256).all fun j => i == j || topB i != topB j
set_option maxRecDepth 100000 in
theorem topsB_ok : topsB = true := by kernel_rfl
theorem top_inj {i j : Nat} (hi : i < 256) (hj : j < 256) (h : topB i = topB j) : i = j := by
  have h1 := List.all_eq_true.1 (List.all_eq_true.1 topsB_ok i (List.mem_range.2 hi)) j (List.mem_range.2 hj)
  simp only [Bool.or_eq_true, beq_iff_eq, bne_iff_ne] at h1
  rcases h1 with h1 | h1
  · exact h1
  · exact absurd h h1
theorem top_xor {a t : Nat} (ha : a < 16777216) : (a ^^^ t) / 16777216 = t / 16777216 := by
  have e : ∀ n : Nat, n / 16777216 = n >>> 24 := fun n => by rw [Nat.shiftRight_eq_div_pow]
  rw [e, e, Nat.shiftRight_xor_distrib]
  have : a >>> 24 = 0 := by rw [← e]; omega
  rw [this, Nat.zero_xor]
theorem xor_cl {a b c : Nat} (h : a ^^^ c = b ^^^ c) : a = b := by
  have := congrArg (· ^^^ c) h
  simpa [Nat.xor_assoc] using this
theorem xor_cr {a b c : Nat} (h : c ^^^ a = c ^^^ b) : a = b := by
  rw [Nat.xor_comm c a, Nat.xor_comm c b] at h
  exact xor_cl h
theorem crc1_inj {x y c d : Nat} (hx : x < 4294967296) (hy : y < 4294967296) (hc : c < 256) (hd : d < 256) (h : crc1 x c = crc1 y d) : (x % 256) ^^^ c = (y % 256) ^^^ d ∧ x / 256 = y / 256 := by
  unfold crc1 at h
  have h1 := congrArg (· / 16777216) h
  rw [top_xor (by omega), top_xor (by omega)] at h1
  have e := top_inj (xor8 (by omega) hc) (xor8 (by omega) hd) h1
  refine ⟨e, ?_⟩
  rw [e] at h
  exact xor_cl h
theorem crc1_x {x y c : Nat} (hx : x < 4294967296) (hy : y < 4294967296) (hc : c < 256) (h : crc1 x c = crc1 y c) : x = y := by
  obtain ⟨h1, h2⟩ := crc1_inj hx hy hc hc h
  have := xor_cl h1
  omega
theorem crc1_c {x c d : Nat} (hx : x < 4294967296) (hc : c < 256) (hd : d < 256) (h : crc1 x c = crc1 x d) : c = d := xor_cr (crc1_inj hx hx hc hd h).1
theorem byte_nat {c : Int} (h : inK .u8 c = true) : c.toNat < 256 ∧ 0 ≤ c := by
  simp only [inK, Bool.and_eq_true, decide_eq_true_eq] at h
  omega
theorem crcL_inj : ∀ {xs : List Int} {x y : Nat}, okN .u8 xs → x < 4294967296 → y < 4294967296 → crcL x xs = crcL y xs → x = y
  | [], _, _, _, _, _, h => h
  | c :: xs, x, y, ho, hx, hy, h => by
    have hc := byte_nat (ho c (List.mem_cons_self ..))
    exact crc1_x hx hy hc.1 (crcL_inj (xs := xs) (fun z hz => ho z (List.mem_cons_of_mem _ hz)) (crc1_lt hx hc.1) (crc1_lt hy hc.1) h)
theorem crcL_app {xs ys : List Int} {x : Nat} : crcL x (xs ++ ys) = crcL (crcL x xs) ys := List.foldl_append
/-- A byte turned is seen. -/
theorem crcM_set {xs : List Int} (h : okN .u8 xs) {i : Nat} (hi : i < xs.length) {v : Int} (hv : inK .u8 v = true) (hne : v ≠ xs[i]) : crcM 0 (xs.set i v) ≠ crcM 0 xs := by
  intro e
  have e := xor_cl e
  have d1 : xs = xs.take i ++ (xs[i] :: xs.drop (i + 1)) := by rw [← List.drop_eq_getElem_cons hi, List.take_append_drop]
  have d2 : xs.set i v = xs.take i ++ (v :: xs.drop (i + 1)) := by rw [List.set_eq_take_append_cons_drop, if_pos hi]
  rw [d2] at e
  conv at e => rhs; rw [d1]
  rw [crcL_app, crcL_app] at e
  have hb := crcL_lt (x := 0 ^^^ 4294967295) (okN_take h i) (by decide)
  have hc := byte_nat (h _ (List.getElem_mem hi))
  have hd := byte_nat hv
  have e2 := crcL_inj (okN_drop h (i + 1)) (crc1_lt hb hd.1) (crc1_lt hb hc.1) e
  have := crc1_c hb hd.1 hc.1 e2
  exact hne (by omega)
/-- Four bytes of which one is turned are another number. -/
theorem getN_inj {xs ys : List Int} (hx : okN .u8 xs) (hy : okN .u8 ys) (h4 : 4 ≤ xs.length) (k4 : 4 ≤ ys.length) (h : getN xs = getN ys) : xs.take 4 = ys.take 4 := by
  rw [← get_le hx h4, ← get_le hy k4, h]
theorem okN_set {xs : List Int} (h : okN .u8 xs) (i : Nat) {v : Int} (hv : inK .u8 v = true) : okN .u8 (xs.set i v) := fun y hy => by
  rcases List.mem_or_eq_of_mem_set hy with h1 | rfl
  · exact h y h1
  · exact hv
theorem okN_app {xs ys : List Int} (h : okN .u8 xs) (k : okN .u8 ys) : okN .u8 (xs ++ ys) := fun z hz => by
  rcases List.mem_append.1 hz with h1 | h1
  · exact h z h1
  · exact k z h1
theorem le_ok (n : Nat) : okN .u8 (le n) := fun z hz => by
  simp only [le, List.mem_cons, List.not_mem_nil, or_false] at hz
  simp only [inK, Bool.and_eq_true, decide_eq_true_eq]
  omega
theorem frm_ok {x : List Int} (h : okN .u8 x) : okN .u8 (frm x) := okN_app (le_ok _) (okN_app (le_ok _) h)
/-- A frame of which a byte behind its length is turned is none. -/
theorem spoilt_not {x : List Int} (hx : Fit x) {r : List Int} (hr : okN .u8 r) {j : Nat} (h4 : 4 ≤ j) (hj : j < 8 + x.length) {v : Int} (hv : inK .u8 v = true) (hne : v ≠ (frm x ++ r)[j]?.getD 0) : ¬ stB ((frm x ++ r).set j v) = true := by
  intro hs
  obtain ⟨-, -, -, -, h5⟩ := stB_iff.1 hs
  obtain ⟨f1, f2, f3, f4, f5⟩ := frm_facts hx r
  have hok := okN_app (frm_ok hx.1) hr
  have e1 : getN ((frm x ++ r).set j v) = x.length := by
    rw [← f1]
    simp only [getN]
    rw [List.getElem?_set_ne (by omega), List.getElem?_set_ne (by omega), List.getElem?_set_ne (by omega), List.getElem?_set_ne (by omega)]
  have hlen : (frm x ++ r).length = 8 + x.length + r.length := by rw [List.length_append, frm_len]; omega
  rcases Nat.lt_or_ge j 8 with h8 | h8
  · have e2 : recB ((frm x ++ r).set j v) = x := by
      rw [recB, e1, List.drop_set_of_lt h8, f2, List.take_left']
      rfl
    rw [e2, ← f3, List.drop_set, if_neg (by omega)] at h5
    have := getN_inj (okN_drop hok 4) (okN_set (okN_drop hok 4) (j - 4) hv) (by rw [List.length_drop]; omega) (by rw [List.length_set, List.length_drop]; omega) h5
    have g := congrArg (fun l => l[j - 4]?) this
    rw [List.getElem?_take_of_lt (by omega), List.getElem?_take_of_lt (by omega), List.getElem?_set_self (by rw [List.length_drop]; omega), List.getElem?_drop, show 4 + (j - 4) = j by omega] at g
    rw [g] at hne
    exact hne rfl
  · have e2 : recB ((frm x ++ r).set j v) = x.set (j - 8) v := by
      rw [recB, e1, List.drop_set, if_neg (by omega), f2, List.set_append_left _ _ (by omega), List.take_left' (by rw [List.length_set])]
    have e3 : getN (((frm x ++ r).set j v).drop 4) = getN ((frm x ++ r).drop 4) := by
      rw [List.drop_set, if_neg (by omega)]
      simp only [getN]
      rw [List.getElem?_set_ne (by omega), List.getElem?_set_ne (by omega), List.getElem?_set_ne (by omega), List.getElem?_set_ne (by omega)]
    rw [e2, e3, f3] at h5
    refine crcM_set hx.1 (i := j - 8) (by omega) hv ?_ h5
    intro hvx
    apply hne
    have : (frm x ++ r)[j]? = (x ++ r)[j - 8]? := by rw [← f2, List.getElem?_drop, show 8 + (j - 8) = j by omega]
    rw [this, List.getElem?_append_left (by omega), List.getElem?_eq_getElem (by omega)]
    exact hvx
/-- Frames of which one is spoilt are told up to that one. -/
theorem spl_spoilt {ls : List (List Int)} (hf : ∀ x ∈ ls, Fit x) {i : Nat} (hi : i < ls.length) {j : Nat} (h4 : 4 ≤ j) (hj : j < 8 + ls[i].length) {v : Int} (hv : inK .u8 v = true) (hne : v ≠ (jn ls)[(jn (ls.take i)).length + j]?.getD 0) : splF ((jn ls).set ((jn (ls.take i)).length + j) v) = (ls.take i, (jn (ls.take i)).length) := by
  have e2 : jn ls = jn (ls.take i) ++ (frm ls[i] ++ jn (ls.drop (i + 1))) := by
    have e : ls = ls.take i ++ (ls[i] :: ls.drop (i + 1)) := by rw [← List.drop_eq_getElem_cons hi, List.take_append_drop]
    conv => lhs; rw [e, jn_app]
    rfl
  have okj : ∀ {l : List (List Int)}, (∀ x ∈ l, Fit x) → okN .u8 (jn l) := fun {l} h => by
    intro z hz
    obtain ⟨x, hx, hz⟩ := List.mem_flatMap.1 hz
    exact frm_ok (h x hx).1 z hz
  rw [e2, List.getElem?_append_right (by omega), Nat.add_sub_cancel_left] at hne
  rw [e2, List.set_append_right _ _ (by omega), Nat.add_sub_cancel_left]
  exact spl_app (fun x hx => hf x (List.mem_of_mem_take hx)) (spoilt_not (hf _ (List.getElem_mem hi)) (okj fun x hx => hf x (List.mem_of_mem_drop hx)) h4 hj hv hne)
end Go.Proofs.Ytdoeopcimhpjaaa
