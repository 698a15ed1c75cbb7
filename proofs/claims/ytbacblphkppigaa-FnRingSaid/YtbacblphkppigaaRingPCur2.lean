/- The cursor: sizes, raw numbers, chances, its opening. -/
import Derived.Test.YtbacblphkppigaaRingPCur
import Derived.Test.YtbacblphkppigaaRingPCls
set_option linter.unusedVariables false
set_option linter.unusedSimpArgs false
namespace Go.Proofs.Ytbacblphkppigaa.Ring
open Go.BH
set_option maxRecDepth 100000
theorem rng_nat {x : Nat} (h : x < 9223372036854775808) : rng (x : Int) := by unfold rng; omega
end Go.Proofs.Ytbacblphkppigaa.Ring
