/- Words for the rows: what a row asks of the whole program, limb by limb. -/
import Derived.Test.YtponfomfcmlfmaaMR
import Derived.JoinedOf
set_option linter.unusedVariables false
set_option linter.unusedSimpArgs false
namespace Go.BH
open Go
theorem toList_lit {P : Program} {l : List Char} (h : P.initOrder = String.ofList l) : P.initOrder.toList = l := by
  rw [h, String.toList_ofList]
theorem make_val {Q : Program} {l : List Char} {r : List (List Char)} (h : Q.initOrder.toList = l) (hb : behindMainWord (wordsSigns l) = "cut".toList :: r) : Q.make = some .cut := by
  unfold Program.make
  rw [h, hb]
  rfl
theorem enter_val {Q : Program} {l : List Char} {r : List (List Char)} (h : Q.initOrder.toList = l) (hb : behindMainWord (wordsSigns l) = "cut".toList :: r) (hs : stripLifts liftWords ("cut".toList :: r) = ([], "cut".toList :: r)) (h1 : Q.laysLater = false) (h2 : Q.bearsReflect = false) (h3 : Q.doorFits [] = true) : Q.mayEnter = true := by
  unfold Program.mayEnter
  rw [h, hb]
  simp only [hs, h1, h2, h3]
  rfl
theorem lift_val {Q : Program} {l : List Char} {r : List (List Char)} (h : Q.initOrder.toList = l) (hb : behindMainWord (wordsSigns l) = "cut".toList :: r) (hs : stripLifts liftWords ("cut".toList :: r) = ([], "cut".toList :: r)) : Q.liftsFinal = false := by
  unfold Program.liftsFinal Program.headLifts
  rw [h, hb]
  simp only [hs]
  rfl
end Go.BH
