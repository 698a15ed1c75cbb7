/- The cursor that draws: what its numbers may be. -/
import Derived.Test.YtbacblphkppigaaTRing
import Derived.Test.YtbacblphkppigaaMR
set_option linter.unusedVariables false
set_option linter.unusedSimpArgs false
namespace Go.Proofs.Ytbacblphkppigaa.Ring
open Go.BH
set_option maxRecDepth 100000
theorem tmodLt {x y : Nat} (h : 0 < y) : (x : Int).tmod y = ((x % y : Nat) : Int) := rfl
/-- A cursor: it has drawn at most B numbers; its seed is small. -/
structure Cur (cs : List Nat) (a s B : Nat) : Prop where
  at' : a ≤ B
  lim : B ≤ 1000000000000
  seed : s < 65521
theorem Cur.mono {cs : List Nat} {a s B C : Nat} (h : Cur cs a s B) (hb : B ≤ C) (hc : C ≤ 1000000000000) : Cur cs a s C := ⟨by have := h.at'; omega, hc, h.seed⟩
/-- A code. -/
structure Code (cs : List Nat) : Prop where
  len : cs.length ≤ 1048576
  byte : ∀ x ∈ cs, x < 256
end Go.Proofs.Ytbacblphkppigaa.Ring
