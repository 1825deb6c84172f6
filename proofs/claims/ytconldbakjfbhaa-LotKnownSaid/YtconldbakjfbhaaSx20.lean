/-
  The symbolic machine: the run, regions that draw their order included.
-/
import Derived.Test.YtconldbakjfbhaaSx19
set_option linter.unusedSimpArgs false
set_option linter.unusedVariables false
namespace Go.SX
open Go

abbrev Plan := List (Nat × List Nat)

def planOf : List (Nat × Plan) → Nat → Plan
  | [], _ => []
  | p :: r, id => if p.1 = id then p.2 else planOf r id

/-- The plans fit the regions that are reached. -/
def okC (pl : List (Nat × Plan)) : Code → Bool
  | .seq x y => okC pl x && okC pl y
  | .block _ c => okC pl c
  | .cond _ x y => okC pl x && okC pl y
  | .region id all true => planOk all (planOf pl id)
  | _ => true

def okK (pl : List (Nat × Plan)) : List It → Bool
  | [] => true
  | .code c :: k => okC pl c && okK pl k
  | _ :: k => okK pl k

structure Dr where
  all : Array Oper
  plan : Plan
  A : List (Nat × Nat)
  ok : Bool

/-- An operation, its guard aside, in a region that draws its order: pure, a load, or one that writes. -/
inductive Kind where
  | pure
  | load
  | eff

def kindOf (o : Op) : Kind := if pureOp o = true then .pure else if loadOp o = true then .load else .eff

section
variable {P : Program} {C : Ctx} {k : List It} {st : St} {R : St → Prop} {all : Array Oper} {i : Nat} {un : List Nat} {rest : Plan} {A : List (Nat × Nat)} {o : Oper}

def ldLvl (tm : List (Nat × AV)) : Op → Option Nat
  | .load _ x => (match ev tm x with
    | .ptr l _ _ _ => some l
    | _ => none)
  | _ => none

def ex (P : Program) (C : Ctx) (pl : List (Nat × Plan)) : Nat → Option Dr → List It → St → (St → Prop) → Prop
  | 0, none, k, st, R => Go P C k st R
  | 0, some d, k, st, R => GoP P C d.all d.plan d.A k st R
  | n + 1, some d, k, st, R => (match d.plan with
    | [] => ex P C pl n none k st R
    | (i, un) :: rest => (match opAt d.all i with
      | none => GoP P C d.all ((i, un) :: rest) d.A k st R
      | some o => (match (if d.ok = true then none else o.guard) with
        | none => (match sop P st.tm st.bl o.op with
          | .det vc r bl => (match kindOf o.op with
            | .pure => vc ∧ ex P C pl n (some ⟨d.all, rest, d.A, false⟩) k ⟨st.n, put st.n st.tm o.dst r, st.bl⟩ R
            | .load => (match ldLvl st.tm o.op with
              | some l => vc ∧ ex P C pl n (some ⟨d.all, rest, (i, l) :: d.A, false⟩) k ⟨st.n, put st.n st.tm o.dst r, st.bl⟩ R
              | none => GoP P C d.all ((i, un) :: rest) d.A k st R)
            | .eff => vc ∧ chkA un (sopW st.tm o.op) bl d.A = true ∧ ex P C pl n (some ⟨d.all, rest, d.A, false⟩) k ⟨st.n, put st.n st.tm o.dst r, bl⟩ R)
          | .stop => GoP P C d.all ((i, un) :: rest) d.A k st R)
        | some (j, want) => (match gdst d.all j with
          | some s => (match get st.tm s with
            | .v (.bool b) => if s < st.n then
                bsplit b (if want = true then ex P C pl n (some ⟨d.all, (i, un) :: rest, d.A, true⟩) k ⟨st.n, (s, .v (.bool true)) :: st.tm, st.bl⟩ R
                    else (match kindOf o.op with
                      | .eff => chkA un [] st.bl d.A = true ∧ ex P C pl n (some ⟨d.all, rest, d.A, false⟩) k ⟨st.n, put st.n ((s, .v (.bool true)) :: st.tm) o.dst .any, st.bl⟩ R
                      | _ => ex P C pl n (some ⟨d.all, rest, d.A, false⟩) k ⟨st.n, put st.n ((s, .v (.bool true)) :: st.tm) o.dst .any, st.bl⟩ R))
                  (if want = false then ex P C pl n (some ⟨d.all, (i, un) :: rest, d.A, true⟩) k ⟨st.n, (s, .v (.bool false)) :: st.tm, st.bl⟩ R
                    else (match kindOf o.op with
                      | .eff => chkA un [] st.bl d.A = true ∧ ex P C pl n (some ⟨d.all, rest, d.A, false⟩) k ⟨st.n, put st.n ((s, .v (.bool false)) :: st.tm) o.dst .any, st.bl⟩ R
                      | _ => ex P C pl n (some ⟨d.all, rest, d.A, false⟩) k ⟨st.n, put st.n ((s, .v (.bool false)) :: st.tm) o.dst .any, st.bl⟩ R))
              else GoP P C d.all ((i, un) :: rest) d.A k st R
            | _ => GoP P C d.all ((i, un) :: rest) d.A k st R)
          | none => GoP P C d.all ((i, un) :: rest) d.A k st R))))
  | _ + 1, none, [], st, R => R st
  | _ + 1, none, .fin I :: _, st, _ => I st
  | n + 1, none, .blk _ :: k, st, R => ex P C pl n none k st R
  | n + 1, none, .code c :: k, st, R => (match c with
    | .skip => ex P C pl n none k st R
    | .seq x y => ex P C pl n none (.code x :: .code y :: k) st R
    | .block id c => ex P C pl n none (.code c :: .blk id :: k) st R
    | .exit id => if hasBlk id k = true then ex P C pl n none (exitTo id k) st R else Go P C (.code (.exit id) :: k) st R
    | .ret => R st
    | .cond c x y => (match ev st.tm c with
      | .v (.bool b) => bsplit b (ex P C pl n none (.code x :: k) st R) (ex P C pl n none (.code y :: k) st R)
      | _ => Go P C (.code (.cond c x y) :: k) st R)
    | .region id all draw => (match draw with
      | false => ex P C pl n none (.ops all all.toList :: k) st R
      | true => ex P C pl n (some ⟨all, planOf pl id, [], false⟩) k st R)
    | c => Go P C (.code c :: k) st R)
  | n + 1, none, .ops all os :: k, st, R => (match os with
    | [] => ex P C pl n none k st R
    | o :: os => (match o.guard with
      | none => (match sop P st.tm st.bl o.op with
        | .det vc r bl => vc ∧ ex P C pl n none (.ops all os :: k) ⟨st.n, put st.n st.tm o.dst r, bl⟩ R
        | .stop => Go P C (.ops all (o :: os) :: k) st R)
      | some (j, want) => (match gdst all j with
        | some d => (match get st.tm d with
          | .v (.bool b) => if d < st.n then
              bsplit b (ex P C pl n none (.ops all (ung o want true :: os) :: k) ⟨st.n, (d, .v (.bool true)) :: st.tm, st.bl⟩ R)
                (ex P C pl n none (.ops all (ung o want false :: os) :: k) ⟨st.n, (d, .v (.bool false)) :: st.tm, st.bl⟩ R)
              else Go P C (.ops all (o :: os) :: k) st R
          | _ => Go P C (.ops all (o :: os) :: k) st R)
        | none => Go P C (.ops all (o :: os) :: k) st R)))

def hd (all : Array Oper) : Plan → Option Oper
  | [] => none
  | (i, _) :: _ => opAt all i

def GoX (P : Program) (C : Ctx) (d : Option Dr) (k : List It) (st : St) (R : St → Prop) : Prop :=
  match d with
  | none => Go P C k st R
  | some d => (d.ok = true → ∀ o, hd d.all d.plan = some o → Wanted d.all st.tm st.n o true) → GoP P C d.all d.plan d.A k st R

theorem eff_of_sop {vc : Prop} {r : AV} {bl' : Bls} (ho : sop P st.tm st.bl o.op = .det vc r bl') (hv : vc) : EffRel P C o st (sopW st.tm o.op) (fun r' b' => r' = r ∧ b' = bl') := fun β a w htm hh N Q hN => by
  obtain ⟨y, w', β', h1, h2, h3, h4, h5, h6⟩ := sop_sound (w := w) htm hh ho hv
  have := hN y w' β' r bl' h2 ⟨rfl, rfl⟩ h3 h4 h5 h6
  unfold Oper.wp
  rcases h1 with h1 | ⟨rfl, h1⟩
  · rw [h1]; exact this
  · rw [h1]; exact this

theorem kind_pure {o : Op} (h : kindOf o = .pure) : pureOp o = true := by
  unfold kindOf at h
  split at h
  · assumption
  · split at h <;> cases h

theorem kind_load {o : Op} (h : kindOf o = .load) : loadOp o = true := by
  unfold kindOf at h
  split at h
  · cases h
  · split at h
    · assumption
    · cases h

theorem kind_eff {o : Op} (h : kindOf o = .eff) : effOp o = true := by
  unfold kindOf at h
  split at h
  · cases h
  · split at h
    · cases h
    · rename_i h1 h2; simp [effOp, h1, h2]

theorem kind_neff {o : Op} (h : kindOf o ≠ .eff) : effOp o = false := by
  cases hk : kindOf o with
  | pure => exact eff_pure (kind_pure hk)
  | load => exact eff_load (kind_load hk)
  | eff => exact absurd hk h

theorem gop_sload {l : Nat} {vc : Prop} {r : AV} {bl' : Bls} (ho : opAt all i = some o) (hk : kindOf o.op = .load) (hw : Wanted all st.tm st.n o true) (hl : ldLvl st.tm o.op = some l)
    (hs : sop P st.tm st.bl o.op = .det vc r bl') (hv : vc)
    (h : GoP P C all rest ((i, l) :: A) k ⟨st.n, put st.n st.tm o.dst r, st.bl⟩ R) : GoP P C all ((i, un) :: rest) A k st R := by
  have hlo := kind_load hk
  cases hop : o.op <;> rw [hop] at hlo <;> try (cases hlo; done)
  rename_i t x
  rw [hop] at hl hs
  simp only [ldLvl] at hl
  split at hl
  · rename_i l' i' w' k' he
    obtain rfl := Option.some.inj hl
    simp only [sop, he] at hs
    split at hs
    · rename_i T l2 i2 w2 k2 hT he2
      cases he2
      split at hs
      · rename_i B hB
        split at hs
        · rename_i vc' r' hrd
          cases hs
          exact gop_load ho hop hw hT he hB hrd hv h
        · cases hs
      · cases hs
    · cases hs
  · cases hl

theorem ex_sound {pl : List (Nat × Plan)} (hm : P.follows .mixedOrders = true) : ∀ (n : Nat) (d : Option Dr) (k : List It) (st : St), okK pl k = true → ex P C pl n d k st R → GoX P C d k st R := by
  have hexit : ∀ (id : Nat) (k : List It), okK pl k = true → okK pl (exitTo id k) = true := by
    intro id k
    induction k with
    | nil => intro h; exact h
    | cons x k ih =>
      intro h
      cases x with
      | blk id' =>
        simp only [exitTo]
        simp only [okK] at h
        split
        · exact h
        · exact ih h
      | code c => simp only [okK, Bool.and_eq_true] at h; exact ih h.2
      | ops all os => simp only [okK] at h; exact ih h
      | fin I => simp only [okK] at h; exact ih h
  intro n
  induction n with
  | zero =>
    intro d k st hok h
    cases d with
    | none => exact h
    | some d => exact fun _ => h
  | succ n ih =>
    intro d k st hok h
    cases d with
    | some d =>
      intro hwant
      obtain ⟨all, plan, A, ok⟩ := d
      simp only at hwant ⊢
      cases plan with
      | nil => exact gop_done (ih none k st hok h)
      | cons p rest =>
        obtain ⟨i, un⟩ := p
        simp only [ex] at h
        split at h
        · exact h
        · rename_i o ho
          -- once its guard is known
          have skip : ∀ st' : St, effOp o.op = effOp o.op → Wanted all st'.tm st'.n o false → (match kindOf o.op with
              | .eff => chkA un [] st'.bl A = true ∧ ex P C pl n (some ⟨all, rest, A, false⟩) k ⟨st'.n, put st'.n st'.tm o.dst .any, st'.bl⟩ R
              | _ => ex P C pl n (some ⟨all, rest, A, false⟩) k ⟨st'.n, put st'.n st'.tm o.dst .any, st'.bl⟩ R) → GoP P C all ((i, un) :: rest) A k st' R := by
            intro st' _ hw h
            split at h
            · rename_i hk
              exact gop_effSkip ho (kind_eff hk) hw ⟨h.1, ih _ _ _ hok h.2 (fun e => by cases e)⟩
            · rename_i hk
              exact gop_skip ho (kind_neff fun e => hk e) hw (ih _ _ _ hok h (fun e => by cases e))
          split at h
          · rename_i hg
            have hw : Wanted all st.tm st.n o true := by
              cases ok with
              | true => exact hwant rfl o ho
              | false =>
                simp only [Bool.false_eq_true, if_false] at hg
                unfold Wanted; rw [hg]
            split at h
            · rename_i vc r bl hs
              split at h
              · rename_i hk
                exact gop_pure ho (kind_pure hk) hw hs h.1 (ih _ _ _ hok h.2 (fun e => by cases e))
              · rename_i hk
                split at h
                · rename_i l hl
                  exact gop_sload ho hk hw hl hs h.1 (ih _ _ _ hok h.2 (fun e => by cases e))
                · exact h
              · rename_i hk
                exact gop_eff ho (kind_eff hk) hw (eff_of_sop hs h.1) fun r' b' ⟨e1, e2⟩ => by
                  subst e1; subst e2
                  exact ⟨h.2.1, ih _ _ _ hok h.2.2 (fun e => by cases e)⟩
            · exact h
          · rename_i j want hg
            have hg' : o.guard = some (j, want) := by
              cases ok with
              | true => simp at hg
              | false => simpa using hg
            split at h
            · rename_i s hs
              split at h
              · rename_i b hb
                split at h
                · rename_i hlt
                  have wt : ∀ c, (want = c) → Wanted all ((s, AV.v (.bool c)) :: st.tm) st.n o true := fun c e => by
                    unfold Wanted; rw [hg']; exact ⟨s, hs, hlt, by simp [SX.get, e]⟩
                  have wf : ∀ c, ¬ (want = c) → Wanted all ((s, AV.v (.bool c)) :: st.tm) st.n o false := fun c e => by
                    unfold Wanted; rw [hg']; exact ⟨s, hs, hlt, by cases want <;> cases c <;> simp_all [SX.get]⟩
                  refine gop_split s hb ⟨fun e => ?_, fun e => ?_⟩
                  · have h := h.1 e
                    split at h
                    · rename_i hw
                      exact ih _ _ _ hok h (fun _ o' ho' => by
                        simp only [hd] at ho'
                        rw [ho] at ho'
                        cases ho'
                        exact wt _ hw)
                    · rename_i hw
                      exact skip _ rfl (wf _ hw) h
                  · have h := h.2 e
                    split at h
                    · rename_i hw
                      exact ih _ _ _ hok h (fun _ o' ho' => by
                        simp only [hd] at ho'
                        rw [ho] at ho'
                        cases ho'
                        exact wt _ hw)
                    · rename_i hw
                      exact skip _ rfl (wf _ hw) h
                · exact h
              · exact h
            · exact h
    | none =>
      cases k with
      | nil => exact go_nil h
      | cons x k =>
        cases x with
        | fin I => exact go_fin h
        | blk id => exact go_blk (ih none k st hok h)
        | code c =>
          simp only [okK, Bool.and_eq_true] at hok
          cases c <;> simp only [ex] at h
          case skip => exact go_skip (ih none _ _ hok.2 h)
          case seq x y =>
            simp only [okC, Bool.and_eq_true] at hok
            exact go_seq (ih none _ _ (by simp only [okK, Bool.and_eq_true]; exact ⟨hok.1.1, hok.1.2, hok.2⟩) h)
          case block id c =>
            simp only [okC] at hok
            exact go_block (ih none _ _ (by simp only [okK, Bool.and_eq_true]; exact ⟨hok.1, hok.2⟩) h)
          case exit id =>
            split at h
            · rename_i hb; exact go_exit hb (ih none _ _ (hexit _ _ hok.2) h)
            · exact h
          case ret => exact go_ret h
          case cond c x y =>
            simp only [okC, Bool.and_eq_true] at hok
            split at h
            · rename_i b he
              exact go_cond he ⟨fun e => ih none _ _ (by simp only [okK, Bool.and_eq_true]; exact ⟨hok.1.1, hok.2⟩) (h.1 e), fun e => ih none _ _ (by simp only [okK, Bool.and_eq_true]; exact ⟨hok.1.2, hok.2⟩) (h.2 e)⟩
            · exact h
          case region id all draw =>
            cases draw with
            | false => exact go_region (ih none _ _ (by simp only [okK]; exact hok.2) h)
            | true =>
              simp only [okC] at hok
              exact go_plan _ hm hok.1 (ih (some ⟨all, planOf pl id, [], false⟩) _ _ hok.2 h (fun e => by cases e))
          all_goals exact h
        | ops all os =>
          simp only [okK] at hok
          cases os with
          | nil => exact go_ops_nil (ih none _ _ hok h)
          | cons o os =>
            simp only [ex] at h
            split at h
            · rename_i hg
              split at h
              · rename_i vc r bl ho
                exact go_sop hg ho h.1 (ih none _ _ (by simp only [okK]; exact hok) h.2)
              · exact h
            · rename_i j want hg
              split at h
              · rename_i d hd
                split at h
                · rename_i b hb
                  split at h
                  · rename_i hlt
                    exact go_guard hg hd hlt hb ⟨fun e => ih none _ _ (by simp only [okK]; exact hok) (h.1 e), fun e => ih none _ _ (by simp only [okK]; exact hok) (h.2 e)⟩
                  · exact h
                · exact h
              · exact h

/-- From the start of a function or behind an operation in the text's order. -/
theorem ex_go (pl : List (Nat × Plan)) (n : Nat) (hm : P.follows .mixedOrders = true) (hok : okK pl k = true) (h : ex P C pl n none k st R) : Go P C k st R := ex_sound hm n none k st hok h

/-- In the midst of a region that draws its order. -/
theorem ex_gop (pl : List (Nat × Plan)) (n : Nat) (hm : P.follows .mixedOrders = true) (hok : okK pl k = true) (h : ex P C pl n (some ⟨all, rest, A, false⟩) k st R) : GoP P C all rest A k st R :=
  ex_sound hm n (some ⟨all, rest, A, false⟩) k st hok h (fun e => by cases e)

end

end Go.SX
