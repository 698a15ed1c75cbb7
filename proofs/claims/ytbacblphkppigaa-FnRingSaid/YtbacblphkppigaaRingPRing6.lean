/- Rings: the drawn one. -/
import Derived.Test.YtbacblphkppigaaRingPRing5
import Derived.Test.YtbacblphkppigaaRingPCur2
set_option linter.unusedVariables false
set_option linter.unusedSimpArgs false
namespace Go.Proofs.Ytbacblphkppigaa.Ring
open Go.BH
set_option maxRecDepth 100000
/-- A ring that may be pushed to. -/
structure Rj (h t : Int) (S : List (Int × Int)) : Prop where
  l1 : 1 ≤ S.length
  l2 : S.length ≤ 32
  h0 : 0 ≤ h
  h1 : h ≤ 1000000
  t0 : 0 ≤ t
  t1 : t ≤ 1000000
theorem rpush_j {h t v : Int} {S : List (Int × Int)} (j : Rj h t S) : ∃ (b : Bool) (h' t' : Int) (S' : List (Int × Int)), rpush h t S v = [.b b, .i h', .i t', LS S'] ∧ (b = true → Rj h' t' S') := by
  unfold rpush
  by_cases g : pushOk h t S v
  · rw [if_pos g]
    obtain ⟨k0, k1, k2, k3, k4⟩ := g
    obtain ⟨g1, g2, g3, g4, g5, g6⟩ := rok_hdr k0
    exact ⟨true, h, t + 1, _, rfl, fun _ => ⟨by simp [pushS]; omega, by simp [pushS]; omega, by omega, by omega, by omega, by omega⟩⟩
  · rw [if_neg g]
    exact ⟨false, 0, 0, [], rfl, fun h => by cases h⟩
theorem rpop_j {h t : Int} {S : List (Int × Int)} (j : Rj h t S) : ∃ (v : Int) (b : Bool) (h' t' : Int) (S' : List (Int × Int)), rpop h t S = [.i v, .b b, .i h', .i t', LS S'] ∧ (b = true → Rj h' t' S') := by
  unfold rpop
  by_cases g : rok h t S = true ∧ h ≠ t
  · rw [if_pos g]
    obtain ⟨g1, g2, g3, g4, g5, g6⟩ := rok_hdr g.1
    have := g.2
    exact ⟨_, true, h + 1, t, _, rfl, fun _ => ⟨by simp [popS]; omega, by simp [popS]; omega, by omega, by omega, by omega, by omega⟩⟩
  · rw [if_neg g]
    exact ⟨0, false, 0, 0, [], rfl, fun h => by cases h⟩
theorem len_LS {S : List (Int × Int)} : (Pr.len [.int .i64, .int .i64]).eval [LS S] = some (.i S.length) := by simp [LS]
end Go.Proofs.Ytbacblphkppigaa.Ring
