/- What a bound on the bulk says of rows of numbers. -/
import Derived.Test.YtdoeopcimhpjaaaRows
import Derived.Test.YtdoeopcimhpjaaaSy48
set_option linter.unusedSimpArgs false
set_option linter.unusedVariables false
namespace Go.Proofs.Ytdoeopcimhpjaaa
open Go Go.SY
theorem bulk_one {H : Type} (d : DataW H) : 1 ≤ Rows.uptoBulk d := by
  cases d with
  | lit l => cases l <;> simp [Rows.uptoBulk]
  | nil => simp [Rows.uptoBulk]
  | ptr d => simp [Rows.uptoBulk]
  | slice elems spare => simp [Rows.uptoBulk]
  | agg parts => simp [Rows.uptoBulk]
  | iface t d => simp [Rows.uptoBulk]
  | map entries => simp [Rows.uptoBulk]
  | held h => simp [Rows.uptoBulk]
theorem bulk_len {H : Type} (l : List (DataW H)) : l.length ≤ Rows.uptoBulkAll l := by
  induction l with
  | nil => simp [Rows.uptoBulkAll]
  | cons x r ih => have := bulk_one x; simp only [Rows.uptoBulkAll, List.length_cons]; omega
theorem bulk_relN {H : Type} {r : List Int × Nat} {d : DataW H} (h : relN r d) : r.1.length + 1 ≤ Rows.uptoBulk d := by
  rcases h with h | ⟨as1, bs1, rfl, h⟩
  · have := bulk_one d
    rw [h, List.length_nil]
    omega
  · have := bulk_len as1
    simp only [Rows.uptoBulk]
    omega
def wtN (rs : List (List Int × Nat)) : Nat := (rs.map fun r => r.1.length + 1).sum
theorem bulk_allN {H : Type} : ∀ {rs : List (List Int × Nat)} {ds : List (DataW H)}, AllR relN rs ds → wtN rs ≤ Rows.uptoBulkAll ds
  | [], [], _ => by simp [wtN]
  | r :: rs, d :: ds, ⟨h1, h2⟩ => by
    have a := bulk_relN h1
    have b := bulk_allN h2
    simp only [wtN, List.map_cons, List.sum_cons, Rows.uptoBulkAll] at b ⊢
    omega
theorem bulk_mem {H : Type} {d : DataW H} {l : List (DataW H)} (h : d ∈ l) : Rows.uptoBulk d ≤ Rows.uptoBulkAll l := by
  induction l with
  | nil => cases h
  | cons x r ih =>
    simp only [Rows.uptoBulkAll]
    cases List.mem_cons.1 h with
    | inl e => subst e; omega
    | inr e => have := ih e; omega
theorem bulk_rowsN {H : Type} {rs : List (List Int × Nat)} {d : DataW H} {l : List (DataW H)} (hk : Rows.uptoSmall H l = true) (hd : d ∈ l) (h : rs = [] ∨ ∃ as1 bs1, d = .slice as1 bs1 ∧ AllR relN rs as1) : wtN rs ≤ 1048576 := by
  rcases h with rfl | ⟨as1, bs1, rfl, h⟩
  · simp [wtN]
  · have a := bulk_allN h
    have b := of_decide_eq_true hk
    have c := bulk_mem hd
    simp only [Rows.uptoBulk] at c
    omega
end Go.Proofs.Ytdoeopcimhpjaaa
