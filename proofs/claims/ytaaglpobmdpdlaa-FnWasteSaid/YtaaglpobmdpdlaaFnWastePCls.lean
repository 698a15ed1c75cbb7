/- Classes and chunks of a size. -/
import Derived.Test.YtaaglpobmdpdlaaFnWastePIn
set_option linter.unusedVariables false
set_option linter.unusedSimpArgs false
namespace Go.Proofs.Ytaaglpobmdpdlaa.FnWaste
open Go.BH
attribute [local simp] envA lensOf
def rng (n : Int) : Prop := -9223372036854775808 ≤ n ∧ n < 9223372036854775808
def cls (n : Int) : Int := if n < 1 ∨ 16 < n then -1 else if n ≤ 1 then 0 else if n ≤ 2 then 1 else if n ≤ 4 then 2 else if n ≤ 8 then 3 else 4
def chk (n : Int) : Int := if n ≤ 16 ∨ 256 < n then 0 else (n + 15) / 16
theorem cls_cases (n : Int) : (n < 1 ∨ 16 < n) ∨ n = 1 ∨ n = 2 ∨ n = 3 ∨ n = 4 ∨ n = 5 ∨ n = 6 ∨ n = 7 ∨ n = 8 ∨ n = 9 ∨ n = 10 ∨ n = 11 ∨ n = 12 ∨ n = 13 ∨ n = 14 ∨ n = 15 ∨ n = 16 := by omega
theorem f11 (n : Int) : EvF fes 11 [.i n] [.i (cls n)] := by
  rcases cls_cases n with h | h | h | h | h | h | h | h | h | h | h | h | h | h | h | h | h
  · refine EvF.w (fe := e11) (t := t11) rfl rfl ?_
    simp [t11, e11]
    refine CW.mk (f6 _ _ _) ?_
    have : ¬ (1 ≤ n ∧ n ≤ 16) := by omega
    simp [this, cls, h]
    try omega
  all_goals
    subst h
    exact EvF.at 20 (by kernel_rfl)
theorem f15 (c : Int) (h : c = 0 ∨ c = 1 ∨ c = 2 ∨ c = 3 ∨ c = 4) : EvF fes 15 [.i c] [.i (2 ^ c.toNat)] := by
  rcases h with rfl | rfl | rfl | rfl | rfl <;> exact EvF.at 20 (by kernel_rfl)
theorem f19z (c : Int) (h : c = 0 ∨ c = 1 ∨ c = 2 ∨ c = 3 ∨ c = 4) : EvF fes 19 [.i c] [.i (2 ^ c.toNat)] := by
  rcases h with rfl | rfl | rfl | rfl | rfl <;> exact EvF.at 20 (by kernel_rfl)
theorem f13z (c : Int) (h : c = 0 ∨ c = 1 ∨ c = 2 ∨ c = 3 ∨ c = 4) : EvF fes 13 [.i c] [.i (2 ^ c.toNat)] := by
  rcases h with rfl | rfl | rfl | rfl | rfl <;> exact EvF.at 20 (by kernel_rfl)
theorem f16 (n : Int) : EvF fes 16 [.i n] [.i (cls n)] := by
  rcases cls_cases n with h | h | h | h | h | h | h | h | h | h | h | h | h | h | h | h | h
  · refine EvF.w (fe := e16) (t := t16) rfl rfl ?_
    have p0 := f15 0 (by simp)
    have p1 := f15 1 (by simp)
    have p2 := f15 2 (by simp)
    have p3 := f15 3 (by simp)
    have p4 := f15 4 (by simp)
    simp at p0 p1 p2 p3 p4
    by_cases h1 : 1 ≤ n
    · have g0 : ¬ n ≤ 1 := by omega
      have g1 : ¬ n ≤ 2 := by omega
      have g2 : ¬ n ≤ 4 := by omega
      have g3 : ¬ n ≤ 8 := by omega
      have g4 : ¬ n ≤ 16 := by omega
      simp [t16, e16]
      refine LW.go ?_
      simp [h1]
      refine CW.mk p0 ?_
      simp [g0, wrap64]
      refine LW.go ?_
      simp [h1]
      refine CW.mk p1 ?_
      simp [g1, wrap64]
      refine LW.go ?_
      simp [h1]
      refine CW.mk p2 ?_
      simp [g2, wrap64]
      refine LW.go ?_
      simp [h1]
      refine CW.mk p3 ?_
      simp [g3, wrap64]
      refine LW.go ?_
      simp [h1]
      refine CW.mk p4 ?_
      simp [g4, wrap64]
      refine LW.go ?_
      simp [h1, cls]
      try omega
    · simp [t16, e16]
      refine LW.go ?_
      simp [h1, cls]
      try omega
  all_goals
    subst h
    exact EvF.at 20 (by kernel_rfl)
theorem f17 (n : Int) (h : rng n) : EvF fes 17 [.i n] [.i (chk n)] := by
  refine EvF.w (fe := e17) (t := t17) rfl rfl ?_
  unfold rng at h
  simp [t17, e17]
  by_cases h1 : n ≤ 16
  · simp [h1, chk]
  · by_cases h2 : 256 < n
    · simp [h1, h2, chk]
    · simp only [h1, h2, chk, if_false, or_self]
      rw [wrap64 (x := n + 16) (by omega), wrap64 (x := n + 16 - 1) (by omega), Int.tdiv_eq_ediv_of_nonneg (by omega), wrap64 (by omega)]
      omega
theorem f7 (n : Int) (h : rng n) : EvF fes 7 [.i n] [.i (chk n)] := by
  refine EvF.w (fe := e7) (t := t7) rfl rfl ?_
  unfold rng at h
  simp [t7, e7]
  refine CW.mk (f6 _ _ _) ?_
  by_cases h1 : 17 ≤ n
  · by_cases h2 : n ≤ 256
    · have : ¬ (n ≤ 16 ∨ 256 < n) := by omega
      simp only [h1, h2, chk, this, decide_true, Bool.and_self, Bool.not_true, List.cons_append, List.nil_append, Option.some.injEq]
      simp
      rw [wrap64 (x := n + 16) (by omega), wrap64 (x := n + 16 - 1) (by omega), Int.tdiv_eq_ediv_of_nonneg (by omega), wrap64 (by omega)]
      omega
    · have : n ≤ 16 ∨ 256 < n := by omega
      simp [h1, h2, chk, this]
  · have : n ≤ 16 ∨ 256 < n := by omega
    simp [h1, chk, this]
end Go.Proofs.Ytaaglpobmdpdlaa.FnWaste
