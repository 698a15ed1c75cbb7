/- Scatter: both sides reckon the same. -/
import Derived.Test.YtbacblphkppigaaAuditQA
set_option linter.unusedVariables false
set_option linter.unusedSimpArgs false
namespace Go.Proofs.Ytbacblphkppigaa.Audit
open Go.BH
attribute [local simp] envA lensOf
def sc : Nat × Nat → List Nat → Nat × Nat
  | b, [] => b
  | b, w :: r => sc (if kd w = 1 then (b.1 + 16, b.2 + tw w) else b) r
theorem sc_step {xs : List Nat} {i : Nat} {b : Nat × Nat} (h : i < xs.length) : sc b (xs.drop i) = sc (if kd xs[i] = 1 then (b.1 + 16, b.2 + tw xs[i]) else b) (xs.drop (i + 1)) := by
  rw [List.drop_eq_getElem_cons h, sc]
def scat (xs : List Nat) : Int := if okm xs = true then (if (sc (0, 0) xs).1 = 0 then 0 else IntKind.i64.wrap ((1000 * (((sc (0, 0) xs).1 : Int) - (sc (0, 0) xs).2)).tdiv (sc (0, 0) xs).1)) else -1
end Go.Proofs.Ytbacblphkppigaa.Audit
