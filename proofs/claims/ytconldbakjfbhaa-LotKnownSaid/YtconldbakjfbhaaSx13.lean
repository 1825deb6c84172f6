/-
  The symbolic machine: the rule for calls where there are more blocks than the contract names.
-/
import Derived.Test.YtconldbakjfbhaaSx12
set_option linter.unusedSimpArgs false
set_option linter.unusedVariables false
namespace Go.SX
open Go

section
variable {P : Program} {f : FuncId} {args0 : List AV} {bl0 : Bls} {W0 : List Nat} {K0 : AV → Bls → Prop}

theorem back_len {σ : List Win} {base : Nat} : ∀ (ws : List Win) (bs bl : Bls), (back σ base ws bs bl).length = bl.length
  | [], bs, bl => by cases bs <;> rfl
  | _ :: _, [], bl => rfl
  | W :: ws, b :: bs, bl => by
    simp only [back]
    rw [back_len ws bs]
    split
    · rw [setl_set]; simp
    · rfl

/-- What stands at a level behind the call: what stood there, if no window that is written names it; else what the callee left. -/
theorem back_get {σ : List Win} {base : Nat} : ∀ (ws : List Win) (bs bl : Bls) (l : Nat) (x : Option Blk), ws.length ≤ bs.length → (back σ base ws bs bl)[l]? = some x →
    (bl[l]? = some x ∧ ∀ W ∈ ws, W.own = true → W.l ≠ l) ∨ (∃ (j : Nat) (W : Win) (b : Option Blk), ws[j]? = some W ∧ W.own = true ∧ W.l = l ∧ bs[j]? = some b ∧ x = b.map fun B => ⟨B.own, B.ty, rnCt σ base B.ct⟩)
  | [], bs, bl, l, x, _, h => .inl ⟨by cases bs <;> exact h, fun W h => by cases h⟩
  | W :: ws, [], bl, l, x, hl, _ => by simp at hl
  | W :: ws, b :: bs, bl, l, x, hl, h => by
    simp only [back] at h
    rcases back_get ws bs _ l x (by simpa using hl) h with ⟨h1, h2⟩ | ⟨j, V, b', h1, h2, h3, h4, h5⟩
    · by_cases ho : W.own = true
      · rw [if_pos ho, setl_set] at h1
        by_cases e : W.l = l
        · refine .inr ⟨0, W, b, rfl, ho, e, rfl, ?_⟩
          rw [e, List.getElem?_set] at h1
          simp only [if_true] at h1
          split at h1
          · obtain rfl := Option.some.inj h1
            cases b <;> rfl
          · cases h1
        · rw [List.getElem?_set_ne e] at h1
          exact .inl ⟨h1, fun V hV hVo => by
            rcases List.mem_cons.1 hV with rfl | hV
            · exact e
            · exact h2 V hV hVo⟩
      · rw [if_neg ho] at h1
        exact .inl ⟨h1, fun V hV hVo => by
          rcases List.mem_cons.1 hV with rfl | hV
          · exact absurd hVo ho
          · exact h2 V hV hVo⟩
    · exact .inr ⟨j + 1, V, b', by simpa using h1, h2, h3, by simpa using h4, h5⟩

theorem rnNew_get {σ : List Win} {base : Nat} : ∀ (bs : Bls) (l : Nat) (x : Option Blk), (rnNew σ base bs)[l]? = some x → ∃ b : Option Blk, bs[l]? = some b ∧ x = b.map fun B => ⟨B.own, B.ty, rnCt σ base B.ct⟩
  | [], l, x, h => by simp [rnNew] at h
  | b :: bs, 0, x, h => by
    simp only [rnNew, List.getElem?_cons_zero, Option.some.injEq] at h
    exact ⟨b, rfl, by rw [← h]; cases b <;> rfl⟩
  | b :: bs, l + 1, x, h => by
    simp only [rnNew, List.getElem?_cons_succ] at h
    simpa using rnNew_get bs l x h

theorem rnNew_len {σ : List Win} {base : Nat} : ∀ bs : Bls, (rnNew σ base bs).length = bs.length
  | [] => rfl
  | _ :: bs => by simp [rnNew, rnNew_len bs]

/-- The levels that are written. -/
def wl : List Win → List Nat
  | [] => []
  | W :: ws => if W.own = true then W.l :: wl ws else wl ws

theorem mem_wl : ∀ {σ : List Win} {W : Win}, W ∈ σ → W.own = true → W.l ∈ wl σ
  | [], W, h, _ => by cases h
  | V :: vs, W, h, ho => by
    simp only [wl]
    rcases List.mem_cons.1 h with rfl | h
    · rw [if_pos ho]; simp
    · have := mem_wl h ho
      split
      · exact List.mem_cons_of_mem _ this
      · exact this

/-- **The frame.** -/
theorem SCW.frame (h : SCW P f args0 bl0 W0 K0) (σ : List Win) (bl : Bls) (hok : okArgs σ args0 = true) (hfit : FitsL σ bl σ bl0) (hap : apartB σ = true) :
    SCW P f (args0.map (rnr σ bl.length)) bl (wl σ) (fun r bl' => ∃ r0 bl0', K0 r0 bl0' ∧ r = rn σ bl.length r0 ∧ bl' = after σ bl bl0') := by
  refine ⟨h.1, fun β w vs hh hd => ?_⟩
  obtain ⟨hsl, hfits⟩ := fits_at hfit
  have hlen := hh.len
  -- what a window stands for
  have win : ∀ {l : Nat} {W : Win} {B0 : Blk}, σ[l]? = some W → bl0[l]? = some (some B0) → okCt σ B0.ct = true ∧ ∃ B, bl[W.l]? = some (some B) ∧
      (if B0.own = true then W.own = true ∧ W.o = 0 ∧ B.own = true ∧ B.ty = B0.ty ∧ B.ct = rnCt σ bl.length B0.ct else W.own = false ∧ Shows B W (rnCt σ bl.length B0.ct)) := by
    intro l W B0 h1 h2
    obtain ⟨b, h3, h4⟩ := hfits l W h1
    rw [h2] at h3
    obtain rfl := Option.some.inj h3
    obtain ⟨h5, B, h6, h7⟩ := h4
    exact ⟨h5, B, lvl_get h6, h7⟩
  have sat : ∀ {l : Nat} {b : Option Blk}, bl0[l]? = some b → ∃ W, σ[l]? = some W := by
    intro l b hb
    have := (List.getElem?_eq_some_iff.1 hb).1
    exact ⟨_, List.getElem?_eq_getElem (by omega)⟩
  -- the callee's own view
  have heap0 : Heap (envOf σ β) bl0 w := by
    refine ⟨by simp [envOf, hsl], ?_, ?_⟩
    · intro l B0 hB0
      obtain ⟨W, hW⟩ := sat hB0
      obtain ⟨hokc, B, hB, hcase⟩ := win hW hB0
      obtain ⟨base, hbase, ys, hys, hin⟩ := hh.lv W.l B hB
      refine ⟨base.map fun p => (p.1, p.2 + W.o * W.w), by simp [envOf, hW, hbase], ?_⟩
      by_cases hown : B0.own = true
      · rw [if_pos hown] at hcase
        obtain ⟨-, ho0, hBo, hty, hct⟩ := hcase
        rw [hct] at hys
        refine ⟨ys, ctDen_bk hokc hys, ?_⟩
        cases base with
        | none => exact hin
        | some p =>
          obtain ⟨b, o⟩ := p
          obtain ⟨cs, T, fz, g1, g2, g3⟩ := hin
          obtain ⟨rfl, g4, g5, g6⟩ := g3 hBo
          refine ⟨cs, T, fz, g1, ?_, fun _ => ⟨by rw [ho0]; simp, g4, g5.trans hty, g6⟩⟩
          intro j hj
          rw [ho0]
          simpa using g2 j hj
      · rw [if_neg hown] at hcase
        obtain ⟨-, hsh⟩ := hcase
        obtain ⟨zs, us, hz1, hz2⟩ := hsh β ys hys
        refine ⟨zs, ctDen_bk hokc hz2, ?_⟩
        cases base with
        | none =>
          simp only [Option.map_none]
          simp only at hin
          subst hin
          simp at hz1
          exact hz1.1
        | some p =>
          obtain ⟨b, o⟩ := p
          obtain ⟨cs, T, fz, g1, g2, -⟩ := hin
          refine ⟨cs, T, fz, g1, ?_, fun hx => absurd hx hown⟩
          intro j hj
          have hj' : W.o * W.w + j < ys.length := by
            have := congrArg List.length hz1
            simp at this; omega
          have e1 := g2 _ hj'
          have e2 : ys[W.o * W.w + j]? = zs[j]? := by
            rw [← List.getElem?_drop, hz1, List.getElem?_append_left hj]
          simp only
          rw [Nat.add_assoc, e1, e2]
    · intro l l' B1 B2 b1 o1 b2 o2 hne h1 h2 ho hb1 hb2
      obtain ⟨W1, hW1⟩ := sat h1
      obtain ⟨W2, hW2⟩ := sat h2
      obtain ⟨-, C1, hC1, hc1⟩ := win hW1 h1
      obtain ⟨-, C2, hC2, -⟩ := win hW2 h2
      rw [if_pos ho] at hc1
      obtain ⟨V1, p1, e1, q1, -⟩ := envOf_get hb1
      obtain ⟨V2, p2, e2, q2, -⟩ := envOf_get hb2
      rw [hW1] at e1; obtain rfl := Option.some.inj e1
      rw [hW2] at e2; obtain rfl := Option.some.inj e2
      exact hh.sep W1.l W2.l C1 C2 b1 p1 b2 p2 (apart_at hap l l' W1 W2 hne hW1 hW2 (.inl hc1.1)) hC1 hC2 hc1.2.2.1 q1 q2
  have own0 : ∀ b, Owned (envOf σ β) bl0 b → ∃ (l : Nat) (W : Win) (B : Blk) (o : Nat), σ[l]? = some W ∧ W.own = true ∧ bl[W.l]? = some (some B) ∧ B.own = true ∧ β[W.l]? = some (some (b, o)) := by
    rintro b ⟨l, B0, o, h1, h2, h3⟩
    obtain ⟨W, hW⟩ := sat h1
    obtain ⟨-, B, hB, hc⟩ := win hW h1
    rw [if_pos h2] at hc
    obtain ⟨V, p, e, q, -⟩ := envOf_get h3
    rw [hW] at e; obtain rfl := Option.some.inj e
    exact ⟨l, W, B, p, hW, hc.1, hB, hc.2.2.1, q⟩
  refine (h.2 (envOf σ β) w vs heap0 (denL_bk hok hd)).mono fun e w' ⟨v, r0, bl0', β0', he, hdr, hK, hpre, hh', hst, hown, hnew⟩ => ?_
  -- the caller's names behind the call
  have hσ : σ.length ≤ β0'.length := by
    obtain ⟨t, rfl⟩ := hpre
    simp [envOf]
  have hbl0' : σ.length ≤ bl0'.length := by rw [← hh'.len]; exact hσ
  have hpre' : β <+: β ++ β0'.drop σ.length := List.prefix_append _ _
  have first : ∀ {l : Nat} {x : Option (Nat × Nat)}, l < σ.length → β0'[l]? = some x → (envOf σ β)[l]? = some x := by
    intro l x hl hx
    obtain ⟨t, rfl⟩ := hpre
    rwa [List.getElem?_append_left (by simpa [envOf] using hl)] at hx
  have tie : Tie σ bl.length β0' (β ++ β0'.drop σ.length) := by
    refine ⟨fun l W b o hW hb => ?_, fun l x hl hx => ?_⟩
    · obtain ⟨V, o', e, q, ho⟩ := envOf_get (first (List.getElem?_eq_some_iff.1 hW).1 hb)
      rw [hW] at e; obtain rfl := Option.some.inj e
      exact ⟨o', env_mono hpre' q, ho⟩
    · rw [List.getElem?_append_right (by omega), List.getElem?_drop, ← hx]
      congr 1; omega
  have hst := hst.mono fun b (hb : OwnedIn (envOf σ β) bl0 W0 b) => hb.owned
  have hst' : Step (OwnedIn β bl (wl σ)) w w' := ⟨hst.os, hst.tape, hst.output, hst.size, fun b hb hno => hst.kept b hb fun ho => hno (by
    obtain ⟨l, W, B, o, hW, hWo, hB, hBo, hβ⟩ := own0 b ho
    exact ⟨W.l, B, o, mem_wl (List.mem_of_getElem? hW) hWo, hB, hBo, hβ⟩)⟩
  -- a level behind the call
  have look : ∀ {l : Nat} {B : Blk}, (after σ bl bl0')[l]? = some (some B) →
      (l < bl.length ∧ bl[l]? = some (some B) ∧ ∀ W ∈ σ, W.own = true → W.l ≠ l) ∨
      (l < bl.length ∧ ∃ (j : Nat) (W : Win) (B1 : Blk), σ[j]? = some W ∧ W.own = true ∧ W.l = l ∧ bl0'[j]? = some (some B1) ∧ B = ⟨B1.own, B1.ty, rnCt σ bl.length B1.ct⟩) ∨
      (bl.length ≤ l ∧ ∃ B1 : Blk, bl0'[σ.length + (l - bl.length)]? = some (some B1) ∧ B = ⟨B1.own, B1.ty, rnCt σ bl.length B1.ct⟩) := by
    intro l B hl
    unfold after at hl
    by_cases hlt : l < bl.length
    · rw [List.getElem?_append_left (by rw [back_len]; exact hlt)] at hl
      rcases back_get σ bl0' bl l _ hbl0' hl with ⟨h1, h2⟩ | ⟨j, W, b, h1, h2, h3, h4, h5⟩
      · exact .inl ⟨hlt, h1, h2⟩
      · refine .inr (.inl ⟨hlt, j, W, ?_⟩)
        cases b with
        | none => simp at h5
        | some B1 => exact ⟨B1, h1, h2, h3, h4, by simpa using h5⟩
    · rw [List.getElem?_append_right (by rw [back_len]; omega), back_len] at hl
      obtain ⟨b, h1, h2⟩ := rnNew_get _ _ _ hl
      refine .inr (.inr ⟨by omega, ?_⟩)
      cases b with
      | none => simp at h2
      | some B1 => exact ⟨B1, by rw [List.getElem?_drop] at h1; exact h1, by simpa using h2⟩
  -- its place
  have placeOld : ∀ {l : Nat}, l < bl.length → ∀ {x}, (β ++ β0'.drop σ.length)[l]? = some x → β[l]? = some x := by
    intro l hl x hx
    rwa [List.getElem?_append_left (by omega)] at hx
  have placeNew : ∀ {l : Nat}, bl.length ≤ l → ∀ {x}, (β ++ β0'.drop σ.length)[l]? = some x → β0'[σ.length + (l - bl.length)]? = some x := by
    intro l hl x hx
    rw [List.getElem?_append_right (by omega), List.getElem?_drop, hlen] at hx
    exact hx
  -- a window that is written
  have winOwn : ∀ {j : Nat} {W : Win}, σ[j]? = some W → W.own = true → W.o = 0 ∧ ∃ B, bl[W.l]? = some (some B) ∧ B.own = true := by
    intro j W hW ho
    obtain ⟨b, hb, hf⟩ := hfits j W hW
    cases b with
    | none => exact hf.elim
    | some B0 =>
      obtain ⟨-, B, hB, hc⟩ := win hW hb
      by_cases hB0 : B0.own = true
      · rw [if_pos hB0] at hc
        exact ⟨hc.2.1, B, hB, hc.2.2.1⟩
      · rw [if_neg hB0] at hc; rw [hc.1] at ho; cases ho
  have winEnv : ∀ {j : Nat} {W : Win} {x : Option (Nat × Nat)}, σ[j]? = some W → W.own = true → β[W.l]? = some x → β0'[j]? = some x := by
    intro j W x hW ho hβ
    refine env_mono hpre ?_
    obtain ⟨h0, -⟩ := winOwn hW ho
    cases x with
    | none => simp [envOf, hW, hβ]
    | some p => simp [envOf, hW, hβ, h0]
  -- blocks that are apart
  have sepOldWin : ∀ {l : Nat} {B : Blk} {j : Nat} {W : Win} {b o b' o' : Nat}, bl[l]? = some (some B) → (∀ W ∈ σ, W.own = true → W.l ≠ l) → σ[j]? = some W → W.own = true →
      β[l]? = some (some (b, o)) → β[W.l]? = some (some (b', o')) → b ≠ b' := by
    intro l B j W b o b' o' hB hno hW ho h1 h2
    obtain ⟨-, B', hB', hBo⟩ := winOwn hW ho
    exact fun e => hh.sep W.l l B' B b' o' b o (hno W (List.mem_of_getElem? hW) ho) hB' hB hBo h2 h1 e.symm
  have sepOldNew : ∀ {l : Nat} {B : Blk} {b o b' : Nat}, bl[l]? = some (some B) → (∀ W ∈ σ, W.own = true → W.l ≠ l) → β[l]? = some (some (b, o)) → Owned β0' bl0' b' →  b ≠ b' := by
    intro l B b o b' hB hno h1 h2
    rcases hown b' h2 with h3 | h3
    · obtain ⟨j, W, B', o', hW, ho, -, -, hβ⟩ := own0 b' h3
      exact sepOldWin hB hno hW ho h1 hβ
    · have := hh.lt hB h1
      omega
  refine ⟨v, rn σ bl.length r0, after σ bl bl0', β ++ β0'.drop σ.length, he, den_rn tie hdr, ⟨r0, bl0', hK, rfl, rfl⟩, hpre', ⟨?_, ?_, ?_⟩, hst', ?_, ?_⟩
  · simp only [after, List.length_append, back_len, rnNew_len, List.length_drop, hlen, hh'.len]
  · intro l B hl
    rcases look hl with ⟨hlt, hB, hno⟩ | ⟨hlt, j, W, B1, hW, ho, rfl, hB1, rfl⟩ | ⟨hge, B1, hB1, rfl⟩
    · obtain ⟨base, hbase, hin⟩ := hh.lv l B hB
      refine ⟨base, env_mono hpre' hbase, (hin.mono hpre').same fun b o e => ?_⟩
      subst e
      refine hst.kept b (hh.lt hB hbase) fun hO => ?_
      obtain ⟨j, W, B', o', hW, ho, -, -, hβ⟩ := own0 b hO
      exact sepOldWin hB hno hW ho hbase hβ rfl
    · obtain ⟨-, B, hB, -⟩ := winOwn hW ho
      obtain ⟨base, hbase, -⟩ := hh.lv W.l B hB
      obtain ⟨base', hbase', ys, hys, hin⟩ := hh'.lv j B1 hB1
      rw [winEnv hW ho hbase] at hbase'
      obtain rfl := Option.some.inj hbase'
      exact ⟨base, env_mono hpre' hbase, ys, ctDen_rn tie hys, hin⟩
    · obtain ⟨base', hbase', ys, hys, hin⟩ := hh'.lv _ B1 hB1
      refine ⟨base', ?_, ys, ctDen_rn tie hys, hin⟩
      have := tie.new _ _ (Nat.le_add_right _ _) hbase'
      rwa [show bl.length + (σ.length + (l - bl.length) - σ.length) = l by omega] at this
  · intro l l' B B' b o b' o' hne h1 h2 hBo hb hb'
    rcases look h1 with ⟨lt1, e1, n1⟩ | ⟨lt1, j1, W1, C1, hW1, ho1, rfl, hC1, rfl⟩ | ⟨ge1, C1, hC1, rfl⟩ <;>
      rcases look h2 with ⟨lt2, e2, n2⟩ | ⟨lt2, j2, W2, C2, hW2, ho2, rfl, hC2, rfl⟩ | ⟨ge2, C2, hC2, rfl⟩
    · exact hh.sep l l' B B' b o b' o' hne e1 e2 hBo (placeOld lt1 hb) (placeOld lt2 hb')
    · exact sepOldWin e1 n1 hW2 ho2 (placeOld lt1 hb) (placeOld lt2 hb')
    · have hp := placeNew ge2 hb'
      exact sepOldNew e1 n1 (placeOld lt1 hb) ⟨_, C2, o', hC2, hnew _ C2 (by omega) hC2, hp⟩
    · exact fun e => sepOldWin e2 n2 hW1 ho1 (placeOld lt2 hb') (placeOld lt1 hb) e.symm
    · exact hh'.sep j1 j2 C1 C2 b o b' o' (fun e => by subst e; rw [hW1] at hW2; obtain rfl := Option.some.inj hW2; exact hne rfl) hC1 hC2 hBo
        (winEnv hW1 ho1 (placeOld lt1 hb)) (winEnv hW2 ho2 (placeOld lt2 hb'))
    · have hj := (List.getElem?_eq_some_iff.1 hW1).1
      exact hh'.sep j1 _ C1 C2 b o b' o' (by omega) hC1 hC2 hBo (winEnv hW1 ho1 (placeOld lt1 hb)) (placeNew ge2 hb')
    · have hp := placeNew ge1 hb
      exact fun e => sepOldNew e2 n2 (placeOld lt2 hb') ⟨_, C1, o, hC1, hnew _ C1 (by omega) hC1, hp⟩ e.symm
    · have hj := (List.getElem?_eq_some_iff.1 hW2).1
      exact hh'.sep _ j2 C1 C2 b o b' o' (by omega) hC1 hC2 hBo (placeNew ge1 hb) (winEnv hW2 ho2 (placeOld lt2 hb'))
    · exact hh'.sep _ _ C1 C2 b o b' o' (by omega) hC1 hC2 hBo (placeNew ge1 hb) (placeNew ge2 hb')
  · rintro b ⟨l, B, o, h1, h2, h3⟩
    rcases look h1 with ⟨lt1, e1, n1⟩ | ⟨lt1, j1, W1, C1, hW1, ho1, rfl, hC1, rfl⟩ | ⟨ge1, C1, hC1, rfl⟩
    · exact .inl ⟨l, B, o, e1, h2, placeOld lt1 h3⟩
    · obtain ⟨-, B', hB', hBo⟩ := winOwn hW1 ho1
      exact .inl ⟨W1.l, B', o, hB', hBo, placeOld lt1 h3⟩
    · rcases hown b ⟨_, C1, o, hC1, h2, placeNew ge1 h3⟩ with h4 | h4
      · obtain ⟨j, W, B', o', -, -, hB', hBo, hβ⟩ := own0 b h4
        exact .inl ⟨W.l, B', o', hB', hBo, hβ⟩
      · exact .inr h4
  · intro l B hge hl
    rcases look hl with ⟨lt1, -, -⟩ | ⟨lt1, -⟩ | ⟨ge1, C1, hC1, rfl⟩
    · omega
    · omega
    · exact hnew _ C1 (by omega) hC1

end

end Go.SX
