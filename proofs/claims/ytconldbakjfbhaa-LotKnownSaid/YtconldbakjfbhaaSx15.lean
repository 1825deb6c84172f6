/-
  Regions that draw their order, in the symbolic machine.
-/
import Derived.Test.YtconldbakjfbhaaSx14
set_option linter.unusedSimpArgs false
set_option linter.unusedVariables false
namespace Go.SX
open Go

def pureOp : Op → Bool
  | .move _ => true
  | .pick _ _ _ => true
  | .nilCheck _ => true
  | .binOp _ _ _ _ _ => true
  | .unOp _ _ _ => true
  | .convert _ _ _ => true
  | .makeFunc _ _ _ => true
  | .fieldAddr _ _ _ => true
  | .indexAddr _ _ _ => true
  | .slice _ _ _ _ _ => true
  | .extract _ _ => true
  | .field _ _ _ => true
  | .build _ _ => true
  | .call c => (match c.callee with
    | .builtin .len => true
    | .builtin .cap => true
    | _ => false)
  | _ => false

def loadOp : Op → Bool
  | .load _ _ => true
  | _ => false

def effOp (o : Op) : Bool := !(pureOp o || loadOp o)

section
variable {P : Program} {C : Ctx} {k : List It} {st : St} {R : St → Prop} {all : Array Oper}

theorem sop_pur {β : Env} {n : Nat} {tm : List (Nat × AV)} {bl bl' : Bls} {a : Act} {o : Oper} {vc : Prop} {r : AV} (hp : pureOp o.op = true) (htm : TmOk β n tm a)
    (h : sop P tm bl o.op = .det vc r bl') (hv : vc) : Pur P β a o r ∧ bl' = bl := by
  cases hop : o.op with
  | move x => exact move_sound htm (.inl hop) h
  | pick c x y => exact pick_sound htm hop h
  | build t parts => exact build_sound htm hop h
  | nilCheck x => exact nilCheck_sound htm hop h hv
  | binOp op t x y u => exact binOp_sound htm hop h hv
  | unOp op t x => exact unOp_sound htm hop h hv
  | convert src dst x => exact convert_sound htm hop h
  | makeFunc fn fst cap => exact makeFunc_sound htm hop h
  | fieldAddr s x f => exact fieldAddr_sound htm hop h
  | indexAddr t x ix => exact indexAddr_sound htm hop h hv
  | slice t x lo hi mx => exact slice_sound htm hop h hv
  | extract x i => exact extract_sound htm hop h
  | field t x f => exact field_sound htm hop h
  | call c =>
    obtain ⟨cal, args, ats⟩ := c
    cases cal with
    | builtin b =>
      cases b with
      | len => exact len_sound htm hop h
      | cap => exact cap_sound htm hop h
      | _ => rw [hop] at hp; simp [pureOp] at hp
    | _ => rw [hop] at hp; simp [pureOp] at hp
  | _ => rw [hop] at hp; simp [pureOp] at hp

def noEff (all : Array Oper) (i : Nat) (l : Array Bool) : Prop := ∀ (j : Nat) (o : Oper), all[j]? = some o → effOp o.op = true → IsIn l j → ¬ Dep all i j

def JR (all : Array Oper) (rec : Nat → Option (Nat × Option Obj)) (l : Array Bool) (w : World) : Prop :=
  ∀ (i b : Nat) (o : Option Obj), IsIn l i → noEff all i l → rec i = some (b, o) → w.heap[b]? = o

/-- What has been loaded, and is still as it was. -/
def RecOk (all : Array Oper) (l : Array Bool) (A : List (Nat × Nat)) (rec : Nat → Option (Nat × Option Obj)) (β : Env) (bl : Bls) (w : World) : Prop :=
  (∀ (i b : Nat) (o : Option Obj), IsIn l i → noEff all i l → rec i = some (b, o) → w.heap[b]? = o ∧ ∃ lev off, (i, lev) ∈ A ∧ β[lev]? = some (some (b, off)) ∧ ∃ B : Blk, bl[lev]? = some (some B)) ∧
  ∀ i, ¬ IsIn l i → rec i = none

/-- From this symbolic state, in the midst of a region that draws its order. -/
def GoD (P : Program) (C : Ctx) (all : Array Oper) (n : Nat) (l : Array Bool) (A : List (Nat × Nat)) (k : List It) (st : St) (R : St → Prop) : Prop :=
  ∀ β a w rec, Rel C st β a w → l.size = all.size → Closed all l → RecOk all l A rec β st.bl w → wpAnyJ P all (iwp P C k (Fin C R)) (JR all rec) n l a w

theorem iwp_panic {c : List PanicEntry} {a : Act} {w : World} : ∀ {k : List It}, ¬ iwp P C k (Fin C R) (.panic c) a w
  | [], h => h
  | .blk _ :: k, h => by simp only [iwp] at h; exact iwp_panic h
  | .code _ :: k, h => by simp only [iwp] at h; exact iwp_panic h
  | .ops _ _ :: k, h => by simp only [iwp] at h; exact iwp_panic h
  | .fin _ :: k, h => by simp only [iwp] at h; exact iwp_panic h

theorem go_draw {id : Nat} (hm : P.follows .mixedOrders = true) (h : GoD P C all all.size (Array.replicate all.size false) [] k st R) : Go P C (.code (.region id all true) :: k) st R := fun β a w hr => by
  have hnot : ∀ i, ¬ IsIn (Array.replicate all.size false) i := by
    intro i hi
    unfold IsIn at hi
    rcases Nat.lt_or_ge i all.size with h' | h'
    · simp [h'] at hi
    · simp [Array.getElem?_eq_none, h'] at hi
  refine wp_region_any hm (wpAnyJ_any _ _ _ _ (h β a { w with drawn := w.drawn + 1 } (fun _ => none) ?_ (by simp) ?_ ⟨?_, fun _ _ => rfl⟩))
  · exact { hr with
      heap := ⟨hr.heap.len, hr.heap.lv, hr.heap.sep⟩
      step := ⟨hr.step.os, hr.step.tape, hr.step.output, hr.step.size, hr.step.kept⟩ }
  · intro j o k ho hj ha
    exfalso
    have hlt := (Array.getElem?_eq_some_iff.1 ho).1
    simp [hlt] at hj
  · intro i b o hi
    exact absurd hi (hnot i)

theorem god_done {n : Nat} {l : Array Bool} {A : List (Nat × Nat)} (hr : Region.ready .any all l = []) (h : Go P C k st R) : GoD P C all n l A k st R := fun β a w rec hrel hs hc hrec => by
  have hJ : JR all rec l w := fun i b o hi hn hb => (hrec.1 i b o hi hn hb).1
  have hq := h β a w hrel
  cases n with
  | zero => exact ⟨hJ, hr, hq⟩
  | succ n => exact ⟨hJ, fun _ => hq, fun i hi => by rw [hr] at hi; cases hi⟩

theorem noEff_set {l : Array Bool} {i i' : Nat} {oi : Oper} (hi : all[i]? = some oi) (he : effOp oi.op = false) (h : noEff all i' l) : noEff all i' (l.setIfInBounds i true) := by
  intro j o ho hef hj
  rcases isIn_of_set hj with rfl | hj
  · rw [hi] at ho; obtain rfl := Option.some.inj ho
    rw [he] at hef; cases hef
  · exact h j o ho hef hj

theorem noEff_sub {l : Array Bool} {i i' : Nat} (h : noEff all i' (l.setIfInBounds i true)) : noEff all i' l := fun j o ho hef hj => h j o ho hef (isIn_set hj)

/-- The frame of both rules for what may be done first. -/
theorem god_first {n : Nat} {l : Array Bool} {A A' : List (Nat × Nat)} {i : Nat} {oi : Oper} {r : AV} (hi : all[i]? = some oi) (hsel : Region.noSelect all = true) (hfree : Region.free .any all l i = true)
    (hready : (Region.ready .any all l).contains i = true) (heff : effOp oi.op = false)
    (hy : ∀ β a w, Rel C st β a w → ∃ (v : Value) (rc : Option (Nat × Option Obj)), Den β r v ∧ (∀ p, rc = some p → w.heap[p.1]? = p.2 ∧ ∃ lev off, (i, lev) ∈ A' ∧ β[lev]? = some (some (p.1, off)) ∧ ∃ B : Blk, st.bl[lev]? = some (some B)) ∧
      YieldsG P all oi v (fun w' => ∀ p, rc = some p → w'.heap[p.1]? = p.2) a)
    (hA : ∀ p ∈ A, p ∈ A')
    (h : GoD P C all n (l.setIfInBounds i true) A' k ⟨st.n, put st.n st.tm oi.dst r, st.bl⟩ R) : GoD P C all (n + 1) l A k st R := fun β a w rec hrel hs hc hrec => by
  have hready : i ∈ Region.ready .any all l := by simpa using hready
  have hni := ready_notIn hready
  have hlt : i < l.size := by rw [hs]; exact ready_lt hready
  obtain ⟨v, rc, hd, hrc, hyy⟩ := hy β a w hrel
  have hrec0 : rec i = none := hrec.2 i hni
  let rec' : Nat → Option (Nat × Option Obj) := fun q => if q = i then rc else rec q
  have e1 : rec' i = rc := if_pos rfl
  have e2 : ∀ q, q ≠ i → rec' q = rec q := fun q hq => if_neg hq
  refine wpAnyJ_first (J' := JR all rec') hi hsel (fun c a w hp => absurd hp iwp_panic) ?_ ?_ n l a w hs hc (free_spec hi hfree) hready hyy ?_
  · intro l' w' _ hin hJ i' b o hi' hn hb
    by_cases e : i' = i
    · subst e; rw [hrec0] at hb; cases hb
    · exact hJ i' b o hi' hn (by rw [e2 i' e]; exact hb)
  · intro l' w' hs' hc' hnin hJ
    refine ⟨fun i' b o hi' hn hb => ?_, fun p hp => ?_⟩
    · have e : i' ≠ i := fun e => hnin (e ▸ hi')
      exact hJ i' b o (isIn_set hi') (noEff_set hi heff hn) (by rw [e2 i' e]; exact hb)
    · have hsz : i < l'.size := by rw [hs']; exact ready_lt hready
      refine hJ i p.1 p.2 (isIn_self hsz) ?_ (by rw [e1]; exact hp)
      intro j o ho hef hj
      rcases isIn_of_set hj with rfl | hj
      · rw [hi] at ho; obtain rfl := Option.some.inj ho
        rw [heff] at hef; cases hef
      · exact hc'.noDep hnin hj
  · refine h β _ w rec' (hrel.next (d := oi.dst) hd (List.prefix_refl _) hrel.heap (Step.refl _ _) (fun b hb => .inl hb)) (by simpa using hs) (hc.set hready hs) ⟨?_, ?_⟩
    · intro i' b o hi' hn hb
      by_cases e : i' = i
      · subst e
        rw [e1] at hb
        exact hrc _ hb
      · rw [e2 i' e] at hb
        rcases isIn_of_set hi' with rfl | hi'
        · exact absurd rfl e
        · obtain ⟨g1, lev, off, g2, g3⟩ := hrec.1 i' b o hi' (noEff_sub hn) hb
          exact ⟨g1, lev, off, hA _ g2, g3⟩
    · intro i' hi'
      have e : i' ≠ i := fun e => hi' (by rw [e]; exact isIn_self hlt)
      rw [e2 i' e]
      exact hrec.2 i' fun hx => hi' (isIn_set hx)

/-- May an operation be taken here, as far as its guard goes? -/
def Wanted (all : Array Oper) (tm : List (Nat × AV)) (n : Nat) (o : Oper) (b : Bool) : Prop :=
  match o.guard with
  | none => b = true
  | some (j, want) => ∃ d, gdst all j = some d ∧ d < n ∧ get tm d = .v (.bool (if b = true then want else !want))

theorem Wanted.run {β : Env} {n : Nat} {tm : List (Nat × AV)} {a : Act} {o : Oper} {b : Bool} (htm : TmOk β n tm a) (h : Wanted all tm n o b) : Region.wanted o (yielded all a.tmps) = b := by
  unfold Wanted at h
  unfold Region.wanted
  split at h
  · rename_i hg; rw [hg, h]
  · rename_i j want hg
    rw [hg]
    obtain ⟨d, hd, hlt, hb⟩ := h
    have hv := htm.2 d
    rw [hb] at hv
    simp only [Den] at hv
    have hsz : d < a.tmps.size := by rw [htm.1]; exact hlt
    have hget : a.tmps[d]? = some (.bool (if b = true then want else !want)) := by
      have := hv.1
      rw [Array.getD_eq_getD_getElem?, Array.getElem?_eq_getElem hsz] at this
      rw [Array.getElem?_eq_getElem hsz]; simpa using this
    rw [gdst_eq] at hd
    simp only [yielded, hd, Option.bind_some, hget]
    cases b <;> cases want <;> rfl

theorem eff_pure {o : Op} (h : pureOp o = true) : effOp o = false := by simp [effOp, h]
theorem eff_load {o : Op} (h : loadOp o = true) : effOp o = false := by simp [effOp, h]

theorem god_pure {n : Nat} {l : Array Bool} {A : List (Nat × Nat)} (i : Nat) {oi : Oper} {r : AV} {vc : Prop} {bl' : Bls} (hi : all[i]? = some oi) (hsel : Region.noSelect all = true) (hfree : Region.free .any all l i = true)
    (hready : (Region.ready .any all l).contains i = true) (hp : pureOp oi.op = true) (hw : Wanted all st.tm st.n oi true) (ho : sop P st.tm st.bl oi.op = .det vc r bl') (hv : vc)
    (h : GoD P C all n (l.setIfInBounds i true) A k ⟨st.n, put st.n st.tm oi.dst r, st.bl⟩ R) : GoD P C all (n + 1) l A k st R :=
  god_first hi hsel hfree hready (eff_pure hp) (fun β a w hrel => by
    obtain ⟨⟨y, hd, hrun⟩, -⟩ := sop_pur hp hrel.tm ho hv
    exact ⟨y, none, hd, fun p hp => (by cases hp), .inl ⟨hw.run hrel.tm, fun w _ => hrun w⟩⟩) (fun p hp => hp) h

theorem god_skip {n : Nat} {l : Array Bool} {A : List (Nat × Nat)} (i : Nat) {oi : Oper} (hi : all[i]? = some oi) (hsel : Region.noSelect all = true) (hfree : Region.free .any all l i = true)
    (hready : (Region.ready .any all l).contains i = true) (hp : effOp oi.op = false) (hw : Wanted all st.tm st.n oi false)
    (h : GoD P C all n (l.setIfInBounds i true) A k ⟨st.n, put st.n st.tm oi.dst .any, st.bl⟩ R) : GoD P C all (n + 1) l A k st R :=
  god_first hi hsel hfree hready hp (fun β a w hrel =>
    ⟨undef, none, by simp only [Den], fun p hp => (by cases hp), .inr ⟨hw.run hrel.tm, rfl⟩⟩) (fun p hp => hp) h

theorem god_load {n : Nat} {l : Array Bool} {A : List (Nat × Nat)} (i : Nat) {oi : Oper} {r : AV} {vc : Prop} {t : TypeId} {x : Operand} {T : TI} {lev p w' q : Nat} {B : Blk} (hi : all[i]? = some oi) (hsel : Region.noSelect all = true) (hfree : Region.free .any all l i = true)
    (hready : (Region.ready .any all l).contains i = true) (hop : oi.op = .load t x) (hw : Wanted all st.tm st.n oi true)
    (hT : ti P t = some T) (he : ev st.tm x = .ptr lev p w' q) (hB : lvl st.bl lev = some B) (hr : rdCt B.ct p w' q T = some (vc, r)) (hv : vc)
    (h : GoD P C all n (l.setIfInBounds i true) ((i, lev) :: A) k ⟨st.n, put st.n st.tm oi.dst r, st.bl⟩ R) : GoD P C all (n + 1) l A k st R :=
  god_first (A' := (i, lev) :: A) hi hsel hfree hready (eff_load (by rw [hop]; rfl)) (fun β a w hrel => by
    have hd := den_ev hrel.tm x
    rw [he] at hd
    simp only [Den] at hd
    obtain ⟨b, o0, hb, ha⟩ := hd
    obtain ⟨ys, cs, U, fz, hc, hg, hcs, -⟩ := heap_blk hrel.heap hB hb
    have hs := rdCt_sound hc hr hv
    have hrun : ∀ (w2 : World) y, (loadVar t ⟨b, o0 + (p * w' + q), none⟩).run P w2 = .ok y w2 → (execOp a.eval oi).run P w2 = .ok (.value y) w2 := by
      intro w2 y hy
      unfold execOp
      simp only [hop, Instr.loadAt, ha, Instr.sureAddr, Sem.run_bind, Sem.run_pure, Result.andThen_ok, hy]
    have hrc : ∀ pp, some (b, w.heap[b]?) = some pp → w.heap[pp.1]? = pp.2 ∧ ∃ lev' off, (i, lev') ∈ (i, lev) :: A ∧ β[lev']? = some (some (pp.1, off)) ∧ ∃ B : Blk, st.bl[lev']? = some (some B) := by
      intro pp hpp
      obtain rfl := Option.some.inj hpp
      exact ⟨rfl, lev, o0, by simp, hb, B, lvl_get hB⟩
    have hG : ∀ w2 : World, (∀ pp, some (b, w.heap[b]?) = some pp → w2.heap[pp.1]? = pp.2) → w2.heap[b]? = some (.cells cs U fz) := fun w2 h2 => (h2 _ rfl).trans hg
    by_cases hag : T.ag = true
    · rw [if_pos hag] at hs
      exact ⟨_, some (b, w.heap[b]?), hs.2, hrc, .inl ⟨hw.run hrel.tm, fun w2 h2 => hrun w2 _ (loadVar_agg hT hag (hG w2 h2) hcs hs.1)⟩⟩
    · rw [if_neg hag] at hs
      obtain ⟨y, h1, h2⟩ := hs
      exact ⟨y, some (b, w.heap[b]?), h2, hrc, .inl ⟨hw.run hrel.tm, fun w2 h3 => hrun w2 _ (loadVar_one hT (by simpa using hag) (hG w2 h3) hcs h1)⟩⟩)
    (fun p hp => List.mem_cons_of_mem _ hp) h

/-- A guard that is not known yet: both ways. -/
theorem god_split {n : Nat} {l : Array Bool} {A : List (Nat × Nat)} (d : Nat) {b : Bool} (hb : get st.tm d = .v (.bool b))
    (h : bsplit b (GoD P C all n l A k ⟨st.n, (d, .v (.bool true)) :: st.tm, st.bl⟩ R) (GoD P C all n l A k ⟨st.n, (d, .v (.bool false)) :: st.tm, st.bl⟩ R)) : GoD P C all n l A k st R := fun β a w rec hrel hs hc hrec => by
  have key : ∀ b', b = b' → Rel C ⟨st.n, (d, .v (.bool b')) :: st.tm, st.bl⟩ β a w := fun b' e => by
    refine { hrel with tm := ⟨hrel.tm.1, fun s => ?_⟩ }
    simp only [get]
    split
    · rename_i e'; subst e'; subst e
      have := hrel.tm.2 d
      rw [hb] at this; exact this
    · exact hrel.tm.2 s
  cases hbb : b with
  | true => rw [hbb, bsplit_true] at h; exact h β a w rec (key true hbb) hs hc hrec
  | false => rw [hbb, bsplit_false] at h; exact h β a w rec (key false hbb) hs hc hrec

/-- What an operation that writes, makes memory or calls comes to. -/
def EffRel (P : Program) (C : Ctx) (o : Oper) (st : St) (W : List Nat) (K : AV → Bls → Prop) : Prop :=
  ∀ β a w, TmOk β st.n st.tm a → Heap β st.bl w → ∀ (N : Act → World → Prop) (Q : Exit → Act → World → Prop),
    (∀ y w' β' r bl', Den β' r y → K r bl' → β <+: β' → Heap β' bl' w' → Step (OwnedIn β st.bl W) w w' → (∀ b, Owned β' bl' b → Owned β st.bl b ∨ w.heap.size ≤ b) → N (a.put o.dst y) w') → o.wp P a w N Q

theorem eff_of_scw {o : Oper} {c : Call} {f : FuncId} {args : List AV} {W : List Nat} {K : AV → Bls → Prop} (hop : o.op = .call c) (hc : callee st.tm c = some (f, args)) (hs : SCW P f args st.bl W K) :
    EffRel P C o st W K := fun β a w htm hh N Q hN => by
  obtain ⟨⟨fn, cd, hfn, hname, hbody⟩, hs⟩ := hs
  unfold callee at hc
  cases hcal : c.callee with
  | builtin b => simp [hcal] at hc
  | invoke r m => simp [hcal] at hc
  | value fo =>
    simp only [hcal] at hc
    cases hev : ev st.tm fo <;> simp [hev] at hc
    rename_i g fst caps
    obtain ⟨rfl, rfl⟩ := hc
    have hd := den_ev htm fo
    rw [hev] at hd
    simp only [Den] at hd
    obtain ⟨xs, ys, he, hx, hy⟩ := hd
    have hargs := denL_append hx (denL_append (denL_map htm c.args.toList) hy)
    have hcall := hs β w _ hh hargs
    have hrun : (execOp a.eval o).run P w = .ok (.enter g (xs ++ (c.args.toList.map a.eval ++ ys)).toArray) w := by
      unfold execOp
      simp only [hop, Sem.run_bind, resolve, hcal, he, Deferred.ofValue]
      simp only [Sem.run_pure, Result.andThen_ok, invoke]
      rw [callFunc_run hfn hname hbody]
      congr 2
      apply Array.ext'
      simp
    unfold Oper.wp
    rw [hrun]
    simp only [Oper.upon]
    refine hcall.mono fun e w' ⟨v, r, bl', β', he, hd, hK, hb, hh', hst, hown, _⟩ => ?_
    subst he
    exact hN v w' β' r bl' hd hK hb hh' hst hown

/-- An operation that comes next, whatever is drawn. -/
theorem god_eff {n : Nat} {l : Array Bool} {A : List (Nat × Nat)} (i : Nat) {oi : Oper} {W : List Nat} {K : AV → Bls → Prop} (hi : all[i]? = some oi) (hready : Region.ready .any all l = [i])
    (hef : effOp oi.op = true) (hw : Wanted all st.tm st.n oi true) (hE : EffRel P C oi st W K)
    (h : ∀ r bl', K r bl' → (∀ p ∈ A, Dep all p.1 i ∨ (p.2 ∉ W ∧ ∃ B : Blk, bl'[p.2]? = some (some B))) ∧ GoD P C all n (l.setIfInBounds i true) A k ⟨st.n, put st.n st.tm oi.dst r, bl'⟩ R) : GoD P C all (n + 1) l A k st R := fun β a w rec hrel hs hc hrec => by
  have hir : i ∈ Region.ready .any all l := by rw [hready]; simp
  have hni := ready_notIn hir
  have hne : Region.ready .any all l ≠ [] := by rw [hready]; simp
  refine ⟨fun i b o hi hn hb => (hrec.1 i b o hi hn hb).1, fun h0 => absurd h0 hne, fun j hj => ?_⟩
  rw [hready] at hj
  obtain rfl := List.mem_singleton.1 hj
  unfold wpOp
  simp only [hi]
  rw [if_pos (hw.run hrel.tm)]
  refine .inl (hE β a w hrel.tm hrel.heap _ _ fun y w' β' r bl' hd hK hb hh' hst hown => ?_)
  obtain ⟨hchk, hgo⟩ := h r bl' hK
  refine hgo β' _ w' rec (hrel.next (d := oi.dst) hd hb hh' (hst.mono fun b hb => hb.owned) hown) (by simpa using hs) (hc.set hir hs) ⟨?_, ?_⟩
  · intro i' b o hi' hn hrc
    rcases isIn_of_set hi' with rfl | hi'
    · rw [hrec.2 _ hni] at hrc; cases hrc
    · obtain ⟨g1, lev, off, g2, g3, B, g4⟩ := hrec.1 i' b o hi' (noEff_sub hn) hrc
      rcases hchk _ g2 with hdep | ⟨hnW, B', hB'⟩
      · exact absurd hdep (hn j oi hi hef (isIn_self (by rw [hs]; exact ready_lt hir)))
      · refine ⟨?_, lev, off, g2, env_mono hb g3, B', hB'⟩
        rw [← g1]
        refine hst.kept b (hrel.heap.lt g4 g3) fun hO => ?_
        obtain ⟨l2, B2, o2, h1, h2, h3, h4⟩ := hO
        exact hrel.heap.sep l2 lev B2 B b o2 b off (fun e => hnW (e ▸ h1)) h2 g4 h3 h4 g3 rfl
  · intro i' hi'
    exact hrec.2 i' fun hx => hi' (isIn_set hx)

end

end Go.SX
