/- Classes and chunks of a size. -/
import Derived.Test.YtbacblphkppigaaRecordToldPIn
set_option linter.unusedVariables false
set_option linter.unusedSimpArgs false
namespace Go.Proofs.Ytbacblphkppigaa.RecordTold
open Go.BH
attribute [local simp] envA lensOf
def rng (n : Int) : Prop := -9223372036854775808 ≤ n ∧ n < 9223372036854775808
def cls (n : Int) : Int := if n < 1 ∨ 16 < n then -1 else if n ≤ 1 then 0 else if n ≤ 2 then 1 else if n ≤ 4 then 2 else if n ≤ 8 then 3 else 4
def chk (n : Int) : Int := if n ≤ 16 ∨ 256 < n then 0 else (n + 15) / 16
theorem cls_cases (n : Int) : (n < 1 ∨ 16 < n) ∨ n = 1 ∨ n = 2 ∨ n = 3 ∨ n = 4 ∨ n = 5 ∨ n = 6 ∨ n = 7 ∨ n = 8 ∨ n = 9 ∨ n = 10 ∨ n = 11 ∨ n = 12 ∨ n = 13 ∨ n = 14 ∨ n = 15 ∨ n = 16 := by omega
end Go.Proofs.Ytbacblphkppigaa.RecordTold
