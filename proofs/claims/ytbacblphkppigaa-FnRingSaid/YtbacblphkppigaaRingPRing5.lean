/- Rings: the given push, a new one. -/
import Derived.Test.YtbacblphkppigaaRingPRing4
set_option linter.unusedVariables false
set_option linter.unusedSimpArgs false
namespace Go.Proofs.Ytbacblphkppigaa.Ring
open Go.BH
set_option maxRecDepth 100000
def pushS (t : Nat) (v : Int) (S : List (Int × Int)) : List (Int × Int) := S.set (t % S.length) ((t : Int) + 1, v)
def pushOk (h t : Int) (S : List (Int × Int)) (v : Int) : Prop := rok h t S = true ∧ 0 ≤ v ∧ v ≤ 255 ∧ t ≠ h + S.length ∧ t ≠ 1000000
instance (h t : Int) (S : List (Int × Int)) (v : Int) : Decidable (pushOk h t S v) := by unfold pushOk; infer_instance
def rpush (h t : Int) (S : List (Int × Int)) (v : Int) : List D := if pushOk h t S v then [.b true, .i h, .i (t + 1), LS (pushS t.toNat v S)] else [.b false, .i 0, .i 0, .l []]
def newS (n : Nat) : List (Int × Int) := (List.range n).map fun (j : Nat) => ((j : Int), (0 : Int))
theorem newS_succ {n : Nat} : newS (n + 1) = newS n ++ [((n : Int), 0)] := by
  unfold newS
  rw [List.range_succ, List.map_append]
  rfl
theorem app_new {m : Nat} (hm : m ≤ 64) : (Pr.app [.int .i64, .int .i64] 16).eval [LS (newS m), .l [.l [.i (m : Int), .i 0]]] = some (LS (newS (m + 1))) := by
  unfold LS
  rw [ev_app, if_pos (by simp only [List.length_cons, List.length_nil, List.length_map, newS, List.length_range]; omega), newS_succ, List.map_append]
  rfl
theorem len_new {m : Nat} : (Pr.len [.int .i64, .int .i64]).eval [LS (newS m)] = some (.i m) := by
  unfold LS
  rw [ev_len, List.length_map, newS, List.length_map, List.length_range]
end Go.Proofs.Ytbacblphkppigaa.Ring
