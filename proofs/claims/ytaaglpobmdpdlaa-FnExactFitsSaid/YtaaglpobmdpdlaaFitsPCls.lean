/- Classes and chunks of a size. -/
import Derived.Test.YtaaglpobmdpdlaaFitsPIn
set_option linter.unusedVariables false
set_option linter.unusedSimpArgs false
namespace Go.Proofs.Ytaaglpobmdpdlaa.Fits
open Go.BH
attribute [local simp] envA lensOf
def rng (n : Int) : Prop := -9223372036854775808 ≤ n ∧ n < 9223372036854775808
def cls (n : Int) : Int := if n < 1 ∨ 16 < n then -1 else if n ≤ 1 then 0 else if n ≤ 2 then 1 else if n ≤ 4 then 2 else if n ≤ 8 then 3 else 4
def chk (n : Int) : Int := if n ≤ 16 ∨ 256 < n then 0 else (n + 15) / 16
theorem cls_cases (n : Int) : (n < 1 ∨ 16 < n) ∨ n = 1 ∨ n = 2 ∨ n = 3 ∨ n = 4 ∨ n = 5 ∨ n = 6 ∨ n = 7 ∨ n = 8 ∨ n = 9 ∨ n = 10 ∨ n = 11 ∨ n = 12 ∨ n = 13 ∨ n = 14 ∨ n = 15 ∨ n = 16 := by omega
theorem f37 (n : Int) : EvF fes 37 [.i n] [.i (cls n)] := by
  rcases cls_cases n with h | h | h | h | h | h | h | h | h | h | h | h | h | h | h | h | h
  · refine EvF.w (fe := e37) (t := t37) rfl rfl ?_
    simp [t37, e37]
    refine CW.mk (f18 _ _ _) ?_
    have : ¬ (1 ≤ n ∧ n ≤ 16) := by omega
    simp [this, cls, h]
    try omega
  all_goals
    subst h
    exact EvF.at 20 (by kernel_rfl)
theorem f8 (c : Int) (h : c = 0 ∨ c = 1 ∨ c = 2 ∨ c = 3 ∨ c = 4) : EvF fes 8 [.i c] [.i (2 ^ c.toNat)] := by
  rcases h with rfl | rfl | rfl | rfl | rfl <;> exact EvF.at 20 (by kernel_rfl)
theorem f13 (n : Int) : EvF fes 13 [.i n] [.i (cls n)] := by
  rcases cls_cases n with h | h | h | h | h | h | h | h | h | h | h | h | h | h | h | h | h
  · refine EvF.w (fe := e13) (t := t13) rfl rfl ?_
    have p0 := f8 0 (by simp)
    have p1 := f8 1 (by simp)
    have p2 := f8 2 (by simp)
    have p3 := f8 3 (by simp)
    have p4 := f8 4 (by simp)
    simp at p0 p1 p2 p3 p4
    by_cases h1 : 1 ≤ n
    · have g0 : ¬ n ≤ 1 := by omega
      have g1 : ¬ n ≤ 2 := by omega
      have g2 : ¬ n ≤ 4 := by omega
      have g3 : ¬ n ≤ 8 := by omega
      have g4 : ¬ n ≤ 16 := by omega
      simp [t13, e13]
      refine LW.go ?_
      simp [h1]
      refine CW.mk p0 ?_
      simp [g0, wrap64]
      refine LW.go ?_
      simp [h1]
      refine CW.mk p1 ?_
      simp [g1, wrap64]
      refine LW.go ?_
      simp [h1]
      refine CW.mk p2 ?_
      simp [g2, wrap64]
      refine LW.go ?_
      simp [h1]
      refine CW.mk p3 ?_
      simp [g3, wrap64]
      refine LW.go ?_
      simp [h1]
      refine CW.mk p4 ?_
      simp [g4, wrap64]
      refine LW.go ?_
      simp [h1, cls]
      try omega
    · simp [t13, e13]
      refine LW.go ?_
      simp [h1, cls]
      try omega
  all_goals
    subst h
    exact EvF.at 20 (by kernel_rfl)
theorem f14 (n : Int) (h : rng n) : EvF fes 14 [.i n] [.i (chk n)] := by
  refine EvF.w (fe := e14) (t := t14) rfl rfl ?_
  unfold rng at h
  simp [t14, e14]
  by_cases h1 : n ≤ 16
  · simp [h1, chk]
  · by_cases h2 : 256 < n
    · simp [h1, h2, chk]
    · simp only [h1, h2, chk, if_false, or_self]
      rw [wrap64 (x := n + 16) (by omega), wrap64 (x := n + 16 - 1) (by omega), Int.tdiv_eq_ediv_of_nonneg (by omega), wrap64 (by omega)]
      omega
theorem f38 (n : Int) (h : rng n) : EvF fes 38 [.i n] [.i (chk n)] := by
  refine EvF.w (fe := e38) (t := t38) rfl rfl ?_
  unfold rng at h
  simp [t38, e38]
  refine CW.mk (f18 _ _ _) ?_
  by_cases h1 : 17 ≤ n
  · by_cases h2 : n ≤ 256
    · have : ¬ (n ≤ 16 ∨ 256 < n) := by omega
      simp only [h1, h2, chk, this, decide_true, Bool.and_self, Bool.not_true, List.cons_append, List.nil_append, Option.some.injEq]
      simp
      rw [wrap64 (x := n + 16) (by omega), wrap64 (x := n + 16 - 1) (by omega), Int.tdiv_eq_ediv_of_nonneg (by omega), wrap64 (by omega)]
      omega
    · have : n ≤ 16 ∨ 256 < n := by omega
      simp [h1, h2, chk, this]
  · have : n ≤ 16 ∨ 256 < n := by omega
    simp [h1, chk, this]
end Go.Proofs.Ytaaglpobmdpdlaa.Fits
