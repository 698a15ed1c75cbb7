/- LongestFree: both sides reckon the same. -/
import Derived.Test.YtbacblphkppigaaLongestFreeQA
set_option linter.unusedVariables false
set_option linter.unusedSimpArgs false
namespace Go.Proofs.Ytbacblphkppigaa.LongestFree
open Go.BH
attribute [local simp] envA lensOf
/-- The zeros that a list begins with. -/
def rl : List Nat → Nat
  | [] => 0
  | x :: r => if x = 0 then rl r + 1 else 0
theorem rl_le : ∀ l : List Nat, rl l ≤ l.length
  | [] => Nat.le_refl _
  | x :: r => by
    have := rl_le r
    simp only [rl, List.length_cons]
    split <;> omega
theorem rl_step {xs : List Nat} {i : Nat} (h : i < xs.length) : rl (xs.drop i) = if xs[i] = 0 then rl (xs.drop (i + 1)) + 1 else 0 := by
  rw [List.drop_eq_getElem_cons h, rl]
theorem rl_end {xs : List Nat} {i : Nat} (h : ¬ i < xs.length) : rl (xs.drop i) = 0 := by
  rw [List.drop_eq_nil_of_le (by omega)]
  rfl
def best : Nat → Nat × Nat → List Nat → Nat × Nat
  | _, b, [] => b
  | i, b, x :: r => best (i + 1) (if b.2 < rl (x :: r) then (i, rl (x :: r)) else b) r
theorem best_step {xs : List Nat} {i : Nat} {b : Nat × Nat} (h : i < xs.length) : best i b (xs.drop i) = best (i + 1) (if b.2 < rl (xs.drop i) then (i, rl (xs.drop i)) else b) (xs.drop (i + 1)) := by
  rw [List.drop_eq_getElem_cons h, best]
theorem fin_long {xs : List Nat} {i s l k : Nat} {y : Int} (hil : i < xs.length) (hb : l ≤ xs.length) (hk : rl (xs.drop i) = k) (hp : best (i + 1) (if l < rl (xs.drop i) then (i, rl (xs.drop i)) else (s, l)) (xs.drop (i + 1)) = best 0 (0, 0) xs) (hy : y = ((i + 1 : Nat) : Int)) :
    if l < k then ∃ a a_1 b : Nat, (a ≤ xs.length ∧ b ≤ xs.length ∧ best a (a_1, b) (xs.drop a) = best 0 (0, 0) xs) ∧ xs.length - a < xs.length - i ∧ (i : Int) = a_1 ∧ (k : Int) = b ∧ y = a
    else ∃ a a_1 b : Nat, (a ≤ xs.length ∧ b ≤ xs.length ∧ best a (a_1, b) (xs.drop a) = best 0 (0, 0) xs) ∧ xs.length - a < xs.length - i ∧ (s : Int) = a_1 ∧ (l : Int) = b ∧ y = a := by
  have hrl := rl_le (xs.drop i)
  rw [List.length_drop] at hrl
  rw [hk] at hp hrl
  by_cases h : l < k
  · rw [if_pos h] at hp ⊢
    exact ⟨i + 1, i, k, ⟨by omega, by omega, hp⟩, by omega, rfl, rfl, hy⟩
  · rw [if_neg h] at hp ⊢
    exact ⟨i + 1, s, l, ⟨by omega, by omega, hp⟩, by omega, rfl, rfl, hy⟩
def lfree (xs : List Nat) : List D := if okm xs = true then [.i (best 0 (0, 0) xs).1, .i (best 0 (0, 0) xs).2] else [.i (-1), .i 0]
theorem f80 (xs : List Nat) (hl : xs.length < 4611686018427387904) (hx : ∀ n ∈ xs, n < 4294967296) : EvF fes 80 [LN xs] (lfree xs) := by
  refine EvF.w (fe := e80) (t := t80) rfl rfl ?_
  have hL : (Pr.len [ku32]).eval [LN xs] = some (.i xs.length) := by simp [LN]
  simp [t80, e80]
  refine CW.mk (f35 xs (by omega) hx) ?_
  unfold lfree
  cases hk : okm xs with
  | false => simp
  | true =>
    simp
    refine LW.inv (α := Nat × Nat × Nat) (fun a => a.1 ≤ xs.length ∧ a.2.2 ≤ xs.length ∧ best a.1 a.2 (xs.drop a.1) = best 0 (0, 0) xs) (fun a => [.i a.2.1, .i a.2.2, .i a.1]) (fun a => xs.length - a.1) (fun ⟨i, s, l⟩ ⟨hi, hb, hp⟩ => ?_) (a := (0, 0, 0)) (by simp) rfl
    simp only at hi hb hp ⊢
    by_cases hil : i < xs.length
    · have h2 : (i : Int) < xs.length := by omega
      simp [hL, h2]
      have hrl := rl_le (xs.drop i)
      rw [List.length_drop] at hrl
      rw [best_step hil] at hp
      refine LW.inv (fun k : Nat => k ≤ rl (xs.drop i) ∧ rl (xs.drop i) = k + rl (xs.drop (i + k))) (fun k => [.i k]) (fun k => rl (xs.drop i) - k) (fun k ⟨hk1, hk2⟩ => ?_) (a := 0) (by simp) rfl
      simp only [List.cons_append, List.nil_append]
      have w1 : IntKind.i64.wrap ((i : Int) + k) = ((i + k : Nat) : Int) := by
        rw [wrap64 (by omega)]
        simp
      by_cases hik : i + k < xs.length
      · have h3 : ((i + k : Nat) : Int) < xs.length := by omega
        have h4 : ¬ ((i + k : Nat) : Int) < 0 := by omega
        have hs := rl_step hik
        simp only [W_seq, W_pr, W_ite, W_blk, W_out, List.map_cons, List.map_nil, den_v, den_k, List.cons_append, List.nil_append, List.getElem?_cons_zero, List.getElem?_cons_succ, Option.getD_some, ev_add, Wm_some, w1, hL, ev_lss, decide_eq_true h3]
        simp [h4, LN]
        refine ⟨⟨by omega, by omega⟩, by omega, _, by rw [show ((i : Int) + k).toNat = i + k by omega]; exact List.getElem?_eq_getElem hik, ?_⟩
        by_cases hz : xs[i + k] = 0
        · rw [if_pos hz] at hs ⊢
          refine ⟨k + 1, ⟨by omega, ?_⟩, by omega, ?_⟩
          · rw [show i + (k + 1) = i + k + 1 by omega]
            omega
          · rw [wrap64 (by omega)]
            simp
        · rw [if_neg hz] at hs ⊢
          exact fin_long hil hb (by omega) hp (by rw [wrap64 (by omega)]; simp)
      · have h3 : ¬ ((i + k : Nat) : Int) < xs.length := by omega
        have hs := rl_end hik
        simp only [W_seq, W_pr, W_ite, W_blk, W_out, List.map_cons, List.map_nil, den_v, den_k, List.cons_append, List.nil_append, List.getElem?_cons_zero, List.getElem?_cons_succ, Option.getD_some, ev_add, Wm_some, w1, hL, ev_lss, decide_eq_false h3]
        simp
        exact fin_long hil hb (by omega) hp (by rw [wrap64 (by omega)]; simp)
    · have h2 : ¬ (i : Int) < xs.length := by omega
      obtain rfl : i = xs.length := by omega
      simp [hL]
      simp [best] at hp
      rw [← hp]
      exact ⟨rfl, rfl⟩
theorem f79 (xs : List Nat) (hl : xs.length < 4611686018427387904) (hx : ∀ n ∈ xs, n < 4294967296) : EvF fes 79 [LN xs] (lfree xs) := by
  refine EvF.w (fe := e79) (t := t79) rfl rfl ?_
  have hL : (Pr.len [ku32]).eval [LN xs] = some (.i xs.length) := by simp [LN]
  simp [t79, e79]
  refine CW.mk (f78 xs (by omega) hx) ?_
  unfold lfree
  cases hk : okm xs with
  | false => simp
  | true =>
    simp [hL]
    refine LW.inv (α := Nat × Nat × Nat) (fun a => a.1 ≤ xs.length ∧ a.2.2 ≤ xs.length ∧ best a.1 a.2 (xs.drop a.1) = best 0 (0, 0) xs) (fun a => [.i a.2.1, .i a.2.2, .i a.1]) (fun a => xs.length - a.1) (fun ⟨i, s, l⟩ ⟨hi, hb, hp⟩ => ?_) (a := (0, 0, 0)) (by simp) rfl
    simp only at hi hb hp ⊢
    by_cases hil : i < xs.length
    · have h2 : (i : Int) < xs.length := by omega
      simp [hL, h2]
      have hrl := rl_le (xs.drop i)
      rw [List.length_drop] at hrl
      rw [best_step hil] at hp
      refine LW.inv (fun k : Nat => k ≤ rl (xs.drop i) ∧ rl (xs.drop i) = k + rl (xs.drop (i + k))) (fun k => [.i ((i + k : Nat) : Int)]) (fun k => rl (xs.drop i) - k) (fun k ⟨hk1, hk2⟩ => ?_) (a := 0) (by simp) (by simp)
      have w1 : IntKind.i64.wrap (((i + k : Nat) : Int) - i) = k := by
        rw [wrap64 (by omega)]
        omega
      by_cases hik : i + k < xs.length
      · have h3 : ((i + k : Nat) : Int) < xs.length := by omega
        have h4 : ¬ ((i + k : Nat) : Int) < 0 := by omega
        have hs := rl_step hik
        simp only [W_seq, W_pr, W_ite, W_blk, W_out, List.map_cons, List.map_nil, den_v, den_k, List.cons_append, List.nil_append, List.getElem?_cons_zero, List.getElem?_cons_succ, Option.getD_some, ev_sub, Wm_some, w1, hL, ev_lss, decide_eq_true h3]
        simp [h4, LN]
        have w2 : IntKind.i64.wrap ((i : Int) + k - i) = k := by
          rw [wrap64 (by omega)]
          omega
        refine ⟨⟨by omega, by omega⟩, by omega, _, by rw [show ((i : Int) + k).toNat = i + k by omega]; exact List.getElem?_eq_getElem hik, ?_⟩
        by_cases hz : xs[i + k] = 0
        · rw [if_pos hz] at hs ⊢
          refine ⟨k + 1, ⟨by omega, ?_⟩, by omega, ?_⟩
          · rw [show i + (k + 1) = i + k + 1 by omega]
            omega
          · rw [wrap64 (by omega)]
            omega
        · rw [if_neg hz] at hs ⊢
          rw [w2]
          exact fin_long hil hb (by omega) hp (by rw [wrap64 (by omega)]; simp)
      · have h3 : ¬ ((i + k : Nat) : Int) < xs.length := by omega
        have hs := rl_end hik
        simp only [W_seq, W_pr, W_ite, W_blk, W_out, List.map_cons, List.map_nil, den_v, den_k, List.cons_append, List.nil_append, List.getElem?_cons_zero, List.getElem?_cons_succ, Option.getD_some, ev_sub, Wm_some, w1, hL, ev_lss, decide_eq_false h3]
        have w2 : IntKind.i64.wrap ((i : Int) + k - i) = k := by
          rw [wrap64 (by omega)]
          omega
        simp
        rw [w2]
        exact fin_long hil hb (by omega) hp (by rw [wrap64 (by omega)]; simp)
    · have h2 : ¬ (i : Int) < xs.length := by omega
      obtain rfl : i = xs.length := by omega
      simp [hL]
      simp [best] at hp
      rw [← hp]
      exact ⟨rfl, rfl⟩
end Go.Proofs.Ytbacblphkppigaa.LongestFree
