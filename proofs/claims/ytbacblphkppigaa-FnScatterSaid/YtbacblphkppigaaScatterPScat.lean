/- Scatter: both sides reckon the same. -/
import Derived.Test.YtbacblphkppigaaScatterQA
set_option linter.unusedVariables false
set_option linter.unusedSimpArgs false
namespace Go.Proofs.Ytbacblphkppigaa.Scatter
open Go.BH
attribute [local simp] envA lensOf
def sc : Nat × Nat → List Nat → Nat × Nat
  | b, [] => b
  | b, w :: r => sc (if kd w = 1 then (b.1 + 16, b.2 + tw w) else b) r
theorem sc_step {xs : List Nat} {i : Nat} {b : Nat × Nat} (h : i < xs.length) : sc b (xs.drop i) = sc (if kd xs[i] = 1 then (b.1 + 16, b.2 + tw xs[i]) else b) (xs.drop (i + 1)) := by
  rw [List.drop_eq_getElem_cons h, sc]
def scat (xs : List Nat) : Int := if okm xs = true then (if (sc (0, 0) xs).1 = 0 then 0 else IntKind.i64.wrap ((1000 * (((sc (0, 0) xs).1 : Int) - (sc (0, 0) xs).2)).tdiv (sc (0, 0) xs).1)) else -1
theorem f84 (xs : List Nat) (hl : xs.length < 9223372036854775808) (hx : ∀ n ∈ xs, n < 4294967296) : EvF fes 84 [LN xs] [.i (scat xs)] := by
  refine EvF.w (fe := e84) (t := t84) rfl rfl ?_
  have hL : (Pr.len [ku32]).eval [LN xs] = some (.i xs.length) := by simp [LN]
  simp [t84, e84]
  refine CW.mk (f35 xs hl hx) ?_
  unfold scat
  cases hk : okm xs with
  | false => simp
  | true =>
    obtain ⟨h16, hall⟩ := okm_all' hk
    simp
    refine LW.inv (α := Nat × Nat × Nat) (fun a => a.1 ≤ xs.length ∧ a.2.1 ≤ 16 * a.1 ∧ a.2.2 ≤ 512 * a.1 ∧ sc a.2 (xs.drop a.1) = sc (0, 0) xs) (fun a => [.i a.2.1, .i a.2.2, .i a.1]) (fun a => xs.length - a.1) (fun ⟨i, p, u⟩ ⟨hi, hp, hu, hs⟩ => ?_) (a := (0, 0, 0)) (by simp) rfl
    simp only at hi hp hu hs ⊢
    by_cases hil : i < xs.length
    · have h2 : (i : Int) < xs.length := by omega
      have h1 : ¬ (i : Int) < 0 := by omega
      have hx' := hx _ (List.getElem_mem hil)
      have hw := hall _ (List.getElem_mem hil)
      rw [sc_step hil] at hs
      simp [hL, h2, h1]
      simp only [LN]
      simp [hil]
      generalize hwe : xs[i] = w at hx' hw hs
      refine CW.mk (f23 _ hx') ?_
      simp only [rdw, hw, if_true]
      have htw := tw_le w
      by_cases h1k : kd w = 1
      · rw [if_pos h1k] at hs
        simp [h1k, h1, h2, hil, hwe]
        refine CW.mk (f83 w hx') ?_
        simp
        refine ⟨i + 1, p + 16, u + tw w, ⟨by omega, by omega, by omega, hs⟩, by omega, ?_, ?_, ?_⟩
        · rw [wrap64 (by omega)]
          simp
        · rw [wrap64 (by omega)]
          simp
        · rw [wrap64 (by omega)]
          simp
      · rw [if_neg h1k] at hs
        simp [show ¬ (kd w : Int) = 1 by omega]
        refine ⟨i + 1, p, u, ⟨by omega, by omega, by omega, hs⟩, by omega, rfl, rfl, ?_⟩
        rw [wrap64 (by omega)]
        simp
    · have h2 : ¬ (i : Int) < xs.length := by omega
      obtain rfl : i = xs.length := by omega
      simp [hL]
      simp [sc] at hs
      rw [← hs]
      simp only
      by_cases hp0 : p = 0
      · simp [hp0]
      · have hp0' : ¬ (p : Int) = 0 := by omega
        simp [hp0]
        rw [wrap64 (x := (p : Int) - u) (by omega), wrap64 (x := 1000 * ((p : Int) - u)) (by omega)]
theorem f82 (xs : List Nat) (hl : xs.length < 9223372036854775808) (hx : ∀ n ∈ xs, n < 4294967296) : EvF fes 82 [LN xs] [.i (scat xs)] := by
  refine EvF.w (fe := e82) (t := t82) rfl rfl ?_
  have hL : (Pr.len [ku32]).eval [LN xs] = some (.i xs.length) := by simp [LN]
  simp [t82, e82]
  refine CW.mk (f78 xs hl hx) ?_
  unfold scat
  cases hk : okm xs with
  | false => simp
  | true =>
    obtain ⟨h16, hall⟩ := okm_all' hk
    simp [hL]
    refine LW.inv (α := Nat × Nat × Nat) (fun a => a.1 ≤ xs.length ∧ a.2.1 ≤ 16 * a.1 ∧ a.2.2 ≤ 512 * a.1 ∧ sc a.2 (xs.drop a.1) = sc (0, 0) xs) (fun a => [.i a.2.1, .i ((a.2.1 : Int) - a.2.2), .i a.1]) (fun a => xs.length - a.1) (fun ⟨i, p, u⟩ ⟨hi, hp, hu, hs⟩ => ?_) (a := (0, 0, 0)) (by simp) rfl
    simp only at hi hp hu hs ⊢
    by_cases hil : i < xs.length
    · have h2 : (i : Int) < xs.length := by omega
      have h1 : ¬ (i : Int) < 0 := by omega
      have hx' := hx _ (List.getElem_mem hil)
      have hw := hall _ (List.getElem_mem hil)
      rw [sc_step hil] at hs
      simp [hL, h2, h1]
      simp only [LN]
      simp [hil]
      generalize hwe : xs[i] = w at hx' hw hs
      refine CW.mk (f74 _ hx') ?_
      simp only [rdw, hw, if_true]
      have htw := tw_le w
      by_cases h1k : kd w = 1
      · rw [if_pos h1k] at hs
        simp [h1k, h1, h2, hil, hwe]
        refine CW.mk (f81 w hx') ?_
        simp
        refine ⟨i + 1, p + 16, u + tw w, ⟨by omega, by omega, by omega, hs⟩, by omega, ?_, ?_, ?_⟩
        · rw [wrap64 (by omega)]
          simp
        · rw [wrap64 (x := 16 - (tw w : Int)) (by omega), wrap64 (by omega)]
          omega
        · rw [wrap64 (by omega)]
          simp
      · rw [if_neg h1k] at hs
        simp [show ¬ (kd w : Int) = 1 by omega]
        refine ⟨i + 1, p, u, ⟨by omega, by omega, by omega, hs⟩, by omega, rfl, rfl, ?_⟩
        rw [wrap64 (by omega)]
        simp
    · have h2 : ¬ (i : Int) < xs.length := by omega
      obtain rfl : i = xs.length := by omega
      simp [hL]
      simp [sc] at hs
      rw [← hs]
      simp only
      by_cases hp0 : p = 0
      · simp [hp0]
      · have hp0' : ¬ (p : Int) = 0 := by omega
        simp [hp0]
        rw [wrap64 (x := 1000 * ((p : Int) - u)) (by omega)]
end Go.Proofs.Ytbacblphkppigaa.Scatter
