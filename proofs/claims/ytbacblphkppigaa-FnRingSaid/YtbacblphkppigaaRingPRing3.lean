/- Rings: the given list, turns. -/
import Derived.Test.YtbacblphkppigaaRingPRing2
set_option linter.unusedVariables false
set_option linter.unusedSimpArgs false
namespace Go.Proofs.Ytbacblphkppigaa.Ring
open Go.BH
set_option maxRecDepth 100000
/-- Does one of the ring's elements lie at slot x? -/
def rturn (h t : Int) (S : List (Int × Int)) (x : Int) : Int :=
  if rok h t S = true ∧ 0 ≤ x ∧ x < S.length then (if (List.range (t.toNat - h.toNat)).any (fun j => decide ((((h.toNat + j) % S.length : Nat) : Int) = x)) = true then 1 else 0) else -1
theorem rturn_bad {h t x : Int} {S : List (Int × Int)} (g : ¬ (rok h t S = true ∧ 0 ≤ x ∧ x < S.length)) : rturn h t S x = -1 := by
  unfold rturn
  rw [if_neg g]
theorem rturn_one {h t x : Int} {S : List (Int × Int)} (g : rok h t S = true ∧ 0 ≤ x ∧ x < S.length) {j : Nat} (hj : j < t.toNat - h.toNat) (hx : (((h.toNat + j) % S.length : Nat) : Int) = x) : rturn h t S x = 1 := by
  unfold rturn
  rw [if_pos g, if_pos]
  rw [List.any_eq_true]
  exact ⟨j, List.mem_range.2 hj, decide_eq_true hx⟩
theorem rturn_no {h t x : Int} {S : List (Int × Int)} (g : rok h t S = true ∧ 0 ≤ x ∧ x < S.length) (hx : ∀ j, j < t.toNat - h.toNat → ¬ (((h.toNat + j) % S.length : Nat) : Int) = x) : rturn h t S x = 0 := by
  unfold rturn
  rw [if_pos g, if_neg]
  rw [List.any_eq_true]
  rintro ⟨j, hj, q⟩
  exact hx j (List.mem_range.1 hj) (of_decide_eq_true q)
end Go.Proofs.Ytbacblphkppigaa.Ring
