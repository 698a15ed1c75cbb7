/- FnExactSemaRead: the plain part: over numbers alone the program's function and the reference's give the same. No condition beyond the kinds of the numbers. -/
import Derived.Test.YtdplpnianhaloaaPFnExactSemaReadx1
namespace Go.Proofs.Ytdplpnianhaloaa.Pure
open Go.RowKit Go.Proofs.Ytdplpnianhaloaa.PFnExactSemaRead Go.Proofs.YtdplpnianhaloaaW.PrintWords Go.Proofs.YtdplpnianhaloaaW.PrintLast
def okB (a b c : Int) : Bool := decide (0 ≤ a ∧ a ≤ 1000 ∧ 0 ≤ b ∧ b ≤ 1000 ∧ 0 ≤ c ∧ c ≤ 1000 ∧ c ≤ a + b)
theorem okB_t {a b c : Int} : okB a b c = true ↔ 0 ≤ a ∧ a ≤ 1000 ∧ 0 ≤ b ∧ b ≤ 1000 ∧ 0 ≤ c ∧ c ≤ 1000 ∧ c ≤ a + b := by simp [okB]
theorem wr {x : Int} (h : -9223372036854775808 ≤ x) (h' : x ≤ 9223372036854775807) : wrap64 x = x := by unfold wrap64; omega
theorem num_eq (a : Int) : spec_l11Num.f a = some (decide (0 ≤ a ∧ a ≤ 1000)) := by
  unfold spec_l11Num.f
  by_cases h : a ≥ 0
  · have : 0 ≤ a := h
    simp [this]
  · have : ¬ 0 ≤ a := h
    simp [this]
theorem ok_eq (a b c : Int) : spec_SemaOk.f a b c = some (okB a b c) := by
  unfold spec_SemaOk.f
  simp only [num_eq, Option.bind_some, decide_eq_true_eq]
  by_cases h1 : 0 ≤ a ∧ a ≤ 1000
  · by_cases h2 : 0 ≤ b ∧ b ≤ 1000
    · by_cases h3 : 0 ≤ c ∧ c ≤ 1000
      · rw [if_pos h1, if_pos h2, if_pos h3, wr (by omega) (by omega), Option.some.injEq, Bool.eq_iff_iff, okB_t, decide_eq_true_eq]
        omega
      · rw [if_pos h1, if_pos h2, if_neg h3, Option.some.injEq, Bool.eq_iff_iff, okB_t]
        simp only [Bool.false_eq_true, false_iff]
        omega
    · rw [if_pos h1, if_neg h2, Option.some.injEq, Bool.eq_iff_iff, okB_t]
      simp only [Bool.false_eq_true, false_iff]
      omega
  · rw [if_neg h1, Option.some.injEq, Bool.eq_iff_iff, okB_t]
    simp only [Bool.false_eq_true, false_iff]
    omega
theorem within_eq (a b c : Int) : impl_within.f a b c = some (decide (b ≤ a ∧ a ≤ c)) := by
  unfold impl_within.f
  by_cases h : a ≥ b
  · have : b ≤ a := h
    simp [this]
  · have : ¬ b ≤ a := h
    simp [this]
theorem is_eq (a b c : Int) : impl_isSema.f a b c = some (okB a b c) := by
  rw [← ok_eq]
  unfold impl_isSema.f spec_SemaOk.f
  simp only [num_eq, within_eq]
theorem wraps_u32 (n : Int) (h₀ : 0 ≤ n) (h₁ : n < 2 ^ 32) : IntKind.u32.wrap n = n := by rw [IntKind.wrap_u32]; omega
theorem u32b {x : Int} (h : (Lit.int .u32 x).wf = true) : 0 ≤ x ∧ x ≤ 4294967295 := by
  simp [Lit.wf, IntKind.min, IntKind.max, IntKind.signed, IntKind.bits] at h
  omega
theorem mask10 (x : Int) (h0 : 0 ≤ x) (h1 : x ≤ 4294967295) : Go.bits .and .u32 x 1023 = x % 1024 :=
  bits_mask .u32 32 (by decide) wraps_u32 10 (by decide) x h0 (by omega)
theorem tmod_pos (x m : Int) (h : 0 ≤ x) : Int.tmod x m = x % m := Int.tmod_eq_emod_of_nonneg h
theorem tdiv_pos (x m : Int) (h : 0 ≤ x) : Int.tdiv x m = x / m := Int.tdiv_eq_ediv_of_nonneg h
theorem read_spec (x : Int) (h0 : 0 ≤ x) (h1 : x ≤ 4294967295) : spec_SemaRead.f x = if okB (x % 1024) (x / 1024 % 1024) (x / 1048576) = true then some (x % 1024, x / 1024 % 1024, x / 1048576, true) else some (0, 0, 0, false) := by
  unfold spec_SemaRead.f
  rw [wr (x := x) (by omega) (by omega)]
  rw [tdiv_pos x 1024 h0, tdiv_pos x 1048576 h0, tmod_pos x 1024 h0, wr (x := x / 1024) (by omega) (by omega), wr (x := x / 1048576) (by omega) (by omega), tmod_pos (x / 1024) 1024 (by omega), ok_eq]
  rfl
theorem read_impl (x : Int) (h0 : 0 ≤ x) (h1 : x ≤ 4294967295) : impl_SemaRead.f x = if okB (x % 1024) (x / 1024 % 1024) (x / 1048576) = true then some (x % 1024, x / 1024 % 1024, x / 1048576, true) else some (0, 0, 0, false) := by
  unfold impl_SemaRead.f
  rw [mask10 x h0 h1, mask10 (x / 1024) (by omega) (by omega), wr (x := x % 1024) (by omega) (by omega), wr (x := x / 1024 % 1024) (by omega) (by omega), wr (x := x / 1048576) (by omega) (by omega), is_eq]
  rfl
theorem FnExactSemaRead : laws_FnExactSemaRead.Pure := by
  intro x hx
  obtain ⟨h0, h1⟩ := u32b hx
  unfold laws_FnExactSemaRead.f laws_eqSema.f
  rw [read_spec x h0 h1, read_impl x h0 h1]
  split <;> simp
end Go.Proofs.Ytdplpnianhaloaa.Pure
