/- FnExactSemaServe: the plain part: over numbers alone the program's function and the reference's give the same. No condition beyond the kinds of the numbers. -/
import Derived.Test.YtdplpnianhaloaaPFnExactSemaServex1
namespace Go.Proofs.Ytdplpnianhaloaa.Pure
open Go.RowKit Go.Proofs.Ytdplpnianhaloaa.PFnExactSemaServe Go.Proofs.YtdplpnianhaloaaW.PrintWords Go.Proofs.YtdplpnianhaloaaW.PrintLast
def okB (a b c : Int) : Bool := decide (0 ≤ a ∧ a ≤ 1000 ∧ 0 ≤ b ∧ b ≤ 1000 ∧ 0 ≤ c ∧ c ≤ 1000 ∧ c ≤ a + b)
theorem okB_t {a b c : Int} : okB a b c = true ↔ 0 ≤ a ∧ a ≤ 1000 ∧ 0 ≤ b ∧ b ≤ 1000 ∧ 0 ≤ c ∧ c ≤ 1000 ∧ c ≤ a + b := by simp [okB]
theorem wr {x : Int} (h : -9223372036854775808 ≤ x) (h' : x ≤ 9223372036854775807) : wrap64 x = x := by unfold wrap64; omega
theorem num_eq (a : Int) : spec_l11Num.f a = some (decide (0 ≤ a ∧ a ≤ 1000)) := by
  unfold spec_l11Num.f
  by_cases h : a ≥ 0
  · have : 0 ≤ a := h
    simp [this]
  · have : ¬ 0 ≤ a := h
    simp [this]
theorem ok_eq (a b c : Int) : spec_SemaOk.f a b c = some (okB a b c) := by
  unfold spec_SemaOk.f
  simp only [num_eq, Option.bind_some, decide_eq_true_eq]
  by_cases h1 : 0 ≤ a ∧ a ≤ 1000
  · by_cases h2 : 0 ≤ b ∧ b ≤ 1000
    · by_cases h3 : 0 ≤ c ∧ c ≤ 1000
      · rw [if_pos h1, if_pos h2, if_pos h3, wr (by omega) (by omega), Option.some.injEq, Bool.eq_iff_iff, okB_t, decide_eq_true_eq]
        omega
      · rw [if_pos h1, if_pos h2, if_neg h3, Option.some.injEq, Bool.eq_iff_iff, okB_t]
        simp only [Bool.false_eq_true, false_iff]
        omega
    · rw [if_pos h1, if_neg h2, Option.some.injEq, Bool.eq_iff_iff, okB_t]
      simp only [Bool.false_eq_true, false_iff]
      omega
  · rw [if_neg h1, Option.some.injEq, Bool.eq_iff_iff, okB_t]
    simp only [Bool.false_eq_true, false_iff]
    omega
theorem within_eq (a b c : Int) : impl_within.f a b c = some (decide (b ≤ a ∧ a ≤ c)) := by
  unfold impl_within.f
  by_cases h : a ≥ b
  · have : b ≤ a := h
    simp [this]
  · have : ¬ b ≤ a := h
    simp [this]
theorem is_eq (a b c : Int) : impl_isSema.f a b c = some (okB a b c) := by
  rw [← ok_eq]
  unfold impl_isSema.f spec_SemaOk.f
  simp only [num_eq, within_eq]
theorem one_eq (a : Int) : spec_l11One.f a = some (decide (1 ≤ a ∧ a ≤ 1000)) := by
  unfold spec_l11One.f
  by_cases h : a ≥ 1
  · have : 1 ≤ a := h
    simp [this]
  · have : ¬ 1 ≤ a := h
    simp [this]
theorem checked_eq (a b c : Int) : impl_checkedSema.f a b c = if okB a b c = true then some (a, b, c, true) else some (0, 0, 0, false) := by
  unfold impl_checkedSema.f
  rw [is_eq]
  rfl
theorem FnExactSemaServe (a b c n : Int) (_ : (Lit.int .i64 a).wf = true) (_ : (Lit.int .i64 b).wf = true) (_ : (Lit.int .i64 c).wf = true) (_ : (Lit.int .i64 n).wf = true) : ∃ k, laws_FnExactSemaServe.f k a b c n = some true := by
  refine ⟨1, ?_⟩
  unfold laws_FnExactSemaServe.f laws_toSema.f impl_SemaServe.f spec_SemaServe.f laws_eqSema.f
  simp only [is_eq, ok_eq, one_eq, within_eq, checked_eq, Option.bind_some, spec_SemaServe.j0]
  by_cases h1 : okB a b c = true
  · by_cases h2 : 1 ≤ n ∧ n ≤ 1000
    · rw [h1, decide_eq_true h2]
      simp only [Bool.not_true, if_true, Bool.false_eq_true, if_false]
      split <;> simp
    · simp [h1, h2]
  · simp [h1]
end Go.Proofs.Ytdplpnianhaloaa.Pure
