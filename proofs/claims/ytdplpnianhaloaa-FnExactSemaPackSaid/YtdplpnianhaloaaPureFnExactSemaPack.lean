/- FnExactSemaPack: the plain part: over numbers alone the program's function and the reference's give the same. No condition beyond the kinds of the numbers. -/
import Derived.Test.YtdplpnianhaloaaPFnExactSemaPackx1
namespace Go.Proofs.Ytdplpnianhaloaa.Pure
open Go.RowKit Go.Proofs.Ytdplpnianhaloaa.PFnExactSemaPack Go.Proofs.YtdplpnianhaloaaW.PrintWords Go.Proofs.YtdplpnianhaloaaW.PrintLast
def okB (a b c : Int) : Bool := decide (0 ≤ a ∧ a ≤ 1000 ∧ 0 ≤ b ∧ b ≤ 1000 ∧ 0 ≤ c ∧ c ≤ 1000 ∧ c ≤ a + b)
theorem okB_t {a b c : Int} : okB a b c = true ↔ 0 ≤ a ∧ a ≤ 1000 ∧ 0 ≤ b ∧ b ≤ 1000 ∧ 0 ≤ c ∧ c ≤ 1000 ∧ c ≤ a + b := by simp [okB]
theorem wr {x : Int} (h : -9223372036854775808 ≤ x) (h' : x ≤ 9223372036854775807) : wrap64 x = x := by unfold wrap64; omega
theorem num_eq (a : Int) : spec_l11Num.f a = some (decide (0 ≤ a ∧ a ≤ 1000)) := by
  unfold spec_l11Num.f
  by_cases h : a ≥ 0
  · have : 0 ≤ a := h
    simp [this]
  · have : ¬ 0 ≤ a := h
    simp [this]
theorem ok_eq (a b c : Int) : spec_SemaOk.f a b c = some (okB a b c) := by
  unfold spec_SemaOk.f
  simp only [num_eq, Option.bind_some, decide_eq_true_eq]
  by_cases h1 : 0 ≤ a ∧ a ≤ 1000
  · by_cases h2 : 0 ≤ b ∧ b ≤ 1000
    · by_cases h3 : 0 ≤ c ∧ c ≤ 1000
      · rw [if_pos h1, if_pos h2, if_pos h3, wr (by omega) (by omega), Option.some.injEq, Bool.eq_iff_iff, okB_t, decide_eq_true_eq]
        omega
      · rw [if_pos h1, if_pos h2, if_neg h3, Option.some.injEq, Bool.eq_iff_iff, okB_t]
        simp only [Bool.false_eq_true, false_iff]
        omega
    · rw [if_pos h1, if_neg h2, Option.some.injEq, Bool.eq_iff_iff, okB_t]
      simp only [Bool.false_eq_true, false_iff]
      omega
  · rw [if_neg h1, Option.some.injEq, Bool.eq_iff_iff, okB_t]
    simp only [Bool.false_eq_true, false_iff]
    omega
theorem within_eq (a b c : Int) : impl_within.f a b c = some (decide (b ≤ a ∧ a ≤ c)) := by
  unfold impl_within.f
  by_cases h : a ≥ b
  · have : b ≤ a := h
    simp [this]
  · have : ¬ b ≤ a := h
    simp [this]
theorem is_eq (a b c : Int) : impl_isSema.f a b c = some (okB a b c) := by
  rw [← ok_eq]
  unfold impl_isSema.f spec_SemaOk.f
  simp only [num_eq, within_eq]
theorem or_comm' (k : IntKind) (x y : Int) : Go.bits .or k x y = Go.bits .or k y x := by simp only [Go.bits, BitVec.or_comm]
theorem wraps_i64 (n : Int) (h₀ : 0 ≤ n) (h₁ : n < 2 ^ 62) : IntKind.i64.wrap n = n := by rw [IntKind.wrap_i64]; omega
theorem or_pack (a b c : Int) (h : 0 ≤ a ∧ a ≤ 1000 ∧ 0 ≤ b ∧ b ≤ 1000 ∧ 0 ≤ c ∧ c ≤ 1000 ∧ c ≤ a + b) :
    Go.bits .or .i64 (Go.bits .or .i64 a (wrap64 (b * 1024))) (wrap64 (c * 1048576)) = a + 1024 * b + 1048576 * c := by
  rw [wr (x := b * 1024) (by omega) (by omega), wr (x := c * 1048576) (by omega) (by omega)]
  have e1 : Go.bits .or .i64 a (b * 1024) = b * 1024 + a := by
    rw [or_comm']
    exact bits_join .i64 62 (by decide) wraps_i64 10 _ _ (by omega) (by omega) (by omega) (by omega) (by omega) (by omega)
  rw [e1]
  have e2 : Go.bits .or .i64 (b * 1024 + a) (c * 1048576) = c * 1048576 + (b * 1024 + a) := by
    rw [or_comm']
    exact bits_join .i64 62 (by decide) wraps_i64 20 _ _ (by omega) (by omega) (by omega) (by omega) (by omega) (by omega)
  rw [e2]
  omega
theorem FnExactSemaPack (a b c : Int) (_ : (Lit.int .i64 a).wf = true) (_ : (Lit.int .i64 b).wf = true) (_ : (Lit.int .i64 c).wf = true) : laws_FnExactSemaPack.f a b c = some true := by
  unfold laws_FnExactSemaPack.f laws_toSema.f impl_SemaPack.f spec_SemaPack.f
  simp only [is_eq, ok_eq, Option.bind_some]
  by_cases h : okB a b c = true
  · have h' := okB_t.1 h
    simp only [h, if_true, Option.bind_some]
    rw [or_pack a b c h', wr (x := 1024 * b) (by omega) (by omega), wr (x := 1048576 * c) (by omega) (by omega), wr (x := a + 1024 * b) (by omega) (by omega), wr (x := a + 1024 * b + 1048576 * c) (by omega) (by omega)]
    simp
  · simp [h]
end Go.Proofs.Ytdplpnianhaloaa.Pure
