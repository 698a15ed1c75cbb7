/- Rings: the count of turns. -/
import Derived.Test.YtaaglpobmdpdlaaTurnsPRing7
set_option linter.unusedVariables false
set_option linter.unusedSimpArgs false
namespace Go.Proofs.Ytaaglpobmdpdlaa.Turns
open Go.BH
set_option maxRecDepth 100000
theorem countP_one {n y : Nat} (h : y < n) : (List.range n).countP (fun x => decide (y = x)) = 1 := by
  induction n with
  | zero => omega
  | succ n ih =>
    rw [List.range_succ, List.countP_append]
    by_cases e : y = n
    · subst e
      have : (List.range y).countP (fun x => decide (y = x)) = 0 := by
        rw [List.countP_eq_zero]
        intro x hx
        have := List.mem_range.1 hx
        simp; omega
      rw [this]
      simp
    · rw [ih (by omega)]
      simp [e]
theorem countP_or {p q : Nat → Bool} : ∀ {l : List Nat}, (∀ x ∈ l, ¬ (p x = true ∧ q x = true)) → l.countP (fun x => p x || q x) = l.countP p + l.countP q
  | [], _ => rfl
  | x :: l, h => by
    rw [List.countP_cons, List.countP_cons, List.countP_cons, countP_or (fun y hy => h y (List.mem_cons_of_mem _ hy))]
    have := h x List.mem_cons_self
    cases hp : p x <;> cases hq : q x <;> simp_all <;> omega
def hit (h n m x : Nat) : Bool := (List.range m).any fun j => decide ((h + j) % n = x)
theorem hit_count {h n : Nat} : ∀ {m : Nat}, m ≤ n → (List.range n).countP (hit h n m) = m
  | 0, _ => by
    rw [List.countP_eq_zero]
    intro x _
    simp [hit]
  | m + 1, hm => by
    have e : hit h n (m + 1) = fun x => hit h n m x || decide ((h + m) % n = x) := by
      funext x
      simp only [hit, List.range_succ, List.any_append, List.any_cons, List.any_nil, Bool.or_false]
    rw [e, countP_or, hit_count (by omega), countP_one (Nat.mod_lt _ (by omega))]
    rintro x _ ⟨h1, h2⟩
    unfold hit at h1
    rw [List.any_eq_true] at h1
    obtain ⟨j, hj, h1⟩ := h1
    have hj := List.mem_range.1 hj
    have h1 := of_decide_eq_true h1
    have h2 := of_decide_eq_true h2
    have := mod_ne (h := h + j) (j := m - j) (n := n) (by omega) (by omega)
    rw [show h + j + (m - j) = h + m by omega] at this
    exact this (h2.trans h1.symm)
def csum (h t : Int) (S : List (Int × Int)) (j : Nat) : Nat := (List.range j).countP fun (x : Nat) => decide (rturn h t S (x : Int) = 1)
theorem csum_succ {h t : Int} {S : List (Int × Int)} {j : Nat} : csum h t S (j + 1) = csum h t S j + (if rturn h t S j = 1 then 1 else 0) := by
  unfold csum
  rw [List.range_succ, List.countP_append]
  by_cases e : rturn h t S j = 1 <;> simp [e]
theorem csum_all {h t : Nat} {S : List (Int × Int)} (g : rok h t S = true) : csum h t S S.length = t - h := by
  obtain ⟨g1, g2, g3, g4, g5, g6⟩ := rok_hdr g
  unfold csum
  rw [← hit_count (h := h) (n := S.length) (m := t - h) (by omega)]
  refine List.countP_congr (fun x hx => ?_)
  have hx := List.mem_range.1 hx
  have gg : rok h t S = true ∧ 0 ≤ (x : Int) ∧ (x : Int) < S.length := ⟨g, by omega, by omega⟩
  unfold rturn hit
  rw [if_pos gg, Int.toNat_natCast, Int.toNat_natCast]
  have e : ∀ j : Nat, decide ((((h + j) % S.length : Nat) : Int) = (x : Int)) = decide ((h + j) % S.length = x) := fun j => by
    rw [decide_eq_decide]; omega
  simp only [e]
  cases (List.range (t - h)).any fun j => decide ((h + j) % S.length = x) <;> simp
theorem rturn_cases (h t x : Int) (S : List (Int × Int)) : rturn h t S x = -1 ∨ rturn h t S x = 0 ∨ rturn h t S x = 1 := by
  unfold rturn
  split
  · split <;> simp
  · simp
end Go.Proofs.Ytaaglpobmdpdlaa.Turns
