/- Numbers as bytes, as the reference makes them. -/
import Derived.Test.YtdjfhggmcigahaaDoorTEText
import Derived.Test.YtdjfhggmcigahaaDoorMW
set_option linter.unusedVariables false
set_option linter.unusedSimpArgs false
namespace Go.Proofs.YtdjfhggmcigahaaDoor.EText
open Go.BH
set_option maxRecDepth 100000
/-- The bytes of a number. -/
def nb (n : Nat) : List Nat := if n < 128 then [n] else if n < 16384 then [128 + n % 128, n / 128] else [128 + n % 128, 128 + n / 128 % 128, n / 16384]
theorem nb_lt {n : Nat} (h : n ≤ 65535) : ∀ x ∈ nb n, x < 256 := by
  intro x hx
  unfold nb at hx
  split at hx
  · simp at hx; omega
  · split at hx
    · simp at hx; omega
    · simp at hx; omega
end Go.Proofs.YtdjfhggmcigahaaDoor.EText
