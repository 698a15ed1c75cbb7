/- Numbers as bytes, and read again: what both sides reckon. -/
import Derived.Test.YtponfomfcmlfmaaLogOfPNb
set_option linter.unusedVariables false
set_option linter.unusedSimpArgs false
namespace Go.Proofs.Ytponfomfcmlfmaa.LogOf
open Go.BH
set_option maxRecDepth 100000
/-- The number that begins at a place, and the place behind it. -/
def nrd (xs : List Nat) (a : Nat) : Option (Nat × Nat) := match xs[a]? with
  | none => none
  | some b0 => if b0 < 128 then some (b0, a + 1) else match xs[a + 1]? with
    | none => none
    | some b1 => if b1 < 128 then (if b1 = 0 then none else some (b0 % 128 + 128 * b1, a + 2)) else match xs[a + 2]? with
      | none => none
      | some b2 => if b2 < 128 ∧ b2 ≠ 0 ∧ b0 % 128 + 128 * (b1 % 128) + 16384 * b2 ≤ 65535 then some (b0 % 128 + 128 * (b1 % 128) + 16384 * b2, a + 3) else none
def nrR : Option (Nat × Nat) → List D
  | none => [.i 0, .i 0, .b false]
  | some (n, j) => [.i n, .i j, .b true]
theorem seg1 {xs : List Nat} {a : Nat} (h : a < xs.length) : (xs.drop a).take 1 = [xs[a]] := by
  rw [List.drop_eq_getElem_cons h]
  rfl
theorem seg2 {xs : List Nat} {a : Nat} (h : a + 1 < xs.length) : (xs.drop a).take 2 = [xs[a], xs[a + 1]] := by
  rw [List.drop_eq_getElem_cons (by omega), List.drop_eq_getElem_cons h]
  rfl
theorem seg3 {xs : List Nat} {a : Nat} (h : a + 2 < xs.length) : (xs.drop a).take 3 = [xs[a], xs[a + 1], xs[a + 2]] := by
  rw [List.drop_eq_getElem_cons (by omega), List.drop_eq_getElem_cons (by omega), List.drop_eq_getElem_cons h]
  rfl
end Go.Proofs.Ytponfomfcmlfmaa.LogOf
