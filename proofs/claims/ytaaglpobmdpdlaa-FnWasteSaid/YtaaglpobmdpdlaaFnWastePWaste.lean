/- Waste: both sides. -/
import Derived.Test.YtaaglpobmdpdlaaFnWastePCls
set_option linter.unusedVariables false
set_option linter.unusedSimpArgs false
namespace Go.Proofs.Ytaaglpobmdpdlaa.FnWaste
open Go.BH
attribute [local simp] envA lensOf
def sz (n : Int) : Int := if 0 ≤ cls n then 2 ^ (cls n).toNat else chk n * 16
theorem cls_in (n : Int) (h : 0 ≤ cls n) : cls n = 0 ∨ cls n = 1 ∨ cls n = 2 ∨ cls n = 3 ∨ cls n = 4 := by
  unfold cls at h ⊢
  split at h
  · omega
  · rename_i g
    rw [if_neg g]
    split
    · simp
    · split
      · simp
      · split
        · simp
        · split <;> simp
def wsum : Int → List Int → Int
  | s, [] => s
  | s, n :: r => if sz n = 0 then -1 else wsum (s + (sz n - n)) r
theorem sz_near (n : Int) (h : sz n ≠ 0) : 0 ≤ sz n - n ∧ sz n - n ≤ 15 ∧ 0 ≤ n ∧ n ≤ 256 := by
  rcases cls_cases n with g | g | g | g | g | g | g | g | g | g | g | g | g | g | g | g | g
  · have hc : cls n = -1 := by simp [cls, g]
    unfold sz at h ⊢
    rw [hc] at h ⊢
    rw [if_neg (by omega)] at h ⊢
    unfold chk at h ⊢
    split at h
    · simp at h
    · rename_i g'
      rw [if_neg g']
      omega
  all_goals
    subst g
    decide


theorem chk_in (n : Int) (h : rng n) : 0 ≤ chk n ∧ chk n ≤ 16 := by
  unfold chk
  split <;> omega
def L (xs : List Int) : D := .l (xs.map .i)
theorem get_L {xs : List Int} {i : Nat} (h : i < xs.length) : (xs.map D.i)[i]? = some (.i (xs[i])) := by simp [h]
theorem copy_step {ys : List D} {i n : Nat} {z y : D} {f : D → D} (hn : ys.length = n) (hi : i < n) (hy : ys[i]? = some y) (hf : f z = y) : (ys.take i ++ List.replicate (n - i) z).modify i f = ys.take (i + 1) ++ List.replicate (n - (i + 1)) z := by
  have ht : (ys.take i).length = i := by simp; omega
  have e1 : List.replicate (n - i) z = z :: List.replicate (n - (i + 1)) z := by
    rw [show n - i = (n - (i + 1)) + 1 by omega, List.replicate_succ]
  have e2 : ys.take (i + 1) = ys.take i ++ [y] := by
    rw [List.take_add_one, hy]
    rfl
  rw [e1, e2, List.append_assoc]
  have : ∀ (a b : List D), a.length = i → (a ++ z :: b).modify i f = a ++ f z :: b := by
    intro a b ha
    subst ha
    clear hi hy ht e1 e2
    induction a with
    | nil => rfl
    | cons x a ih => simp [ih]
  rw [this _ _ ht, hf]
  rfl
theorem wsum_step {s : Int} {xs : List Int} {i : Nat} (h : i < xs.length) : wsum s (xs.drop i) = if sz xs[i] = 0 then -1 else wsum (s + (sz xs[i] - xs[i])) (xs.drop (i + 1)) := by
  rw [List.drop_eq_getElem_cons h, wsum]
theorem fin_step {xs : List Int} {i : Nat} {s n T x y : Int} (hlen : ¬ 1000 < xs.length) (hs0 : 0 ≤ s) (hs1 : s ≤ 15 * i) (hl : i < xs.length) (hw : (if sz n = 0 then -1 else wsum (s + (sz n - n)) (xs.drop (i + 1))) = T) (hx : sz n ≠ 0 → x = s + (sz n - n)) (hy : y = i + 1) :
    if sz n = 0 then -1 = T else ∃ (a : Nat) (b : Int), (a ≤ xs.length ∧ 0 ≤ b ∧ b ≤ 15 * a ∧ wsum b (xs.drop a) = T) ∧ xs.length - a < xs.length - i ∧ x = b ∧ y = a := by
  split
  · rename_i h
    rw [if_pos h] at hw
    exact hw
  · rename_i h
    rw [if_neg h] at hw
    have := sz_near n h
    refine ⟨i + 1, s + (sz n - n), ⟨by omega, by omega, by omega, hw⟩, by omega, hx h, by omega⟩
theorem cls_nn (n : Int) : 0 ≤ cls n ∨ cls n = -1 := by
  unfold cls
  split
  · exact .inr rfl
  · left
    repeat' split
    all_goals decide
def wres (xs : List Int) : Int := if 1000 < xs.length then -1 else wsum 0 xs
theorem f14 (xs : List Int) (h : xs.length < 9223372036854775808) (hx : ∀ n ∈ xs, rng n) : EvF fes 14 [L xs] [.i (wres xs)] := by
  refine EvF.w (fe := e14) (t := t14) rfl rfl ?_
  simp [t14, e14, L]
  by_cases h0 : 1000 < xs.length
  · simp [h0, wres, show (1000 : Int) < xs.length by omega]
  · have h0' : ¬ (1000 : Int) < xs.length := by omega
    simp [h0', wres, h0]
    refine LW.inv (α := Nat × Int) (fun a => a.1 ≤ xs.length ∧ 0 ≤ a.2 ∧ a.2 ≤ 15 * a.1 ∧ wsum a.2 (xs.drop a.1) = wsum 0 xs) (fun a => [.i a.2, .i a.1]) (fun a => xs.length - a.1) (fun ⟨i, s⟩ ⟨hi, hs0, hs1, hw⟩ => ?_) (a := (0, 0)) (by simp) rfl
    simp only at hi hs0 hs1 hw ⊢
    by_cases hl : i < xs.length
    · have h1 : ¬ ((i : Int) < 0) := by omega
      have h2 : (i : Int) < xs.length := by omega
      simp [hl, h1, h2]
      have hr := hx xs[i] (List.getElem_mem hl)
      rw [wsum_step hl] at hw
      generalize xs[i] = n at hw hr
      refine CW.mk (f7 n hr) ?_
      have hc := chk_in n hr
      simp
      rw [wrap64 (by omega)]
      refine CW.mk (f11 n) ?_
      have hsz := sz_near n
      unfold rng at hr
      rcases cls_nn n with hcn | hcn
      · have hs : sz n = 2 ^ (cls n).toNat := by simp [sz, hcn]
        simp [hcn]
        refine CW.mk (f13z _ (cls_in n hcn)) ?_
        rw [← hs]
        simp
        refine fin_step h0 hs0 hs1 hl hw (fun g => ?_) ?_
        · have := hsz g
          rw [wrap64 (x := sz n - n) (by omega), wrap64 (by omega)]
        · rw [wrap64 (by omega)]
      · have hs : sz n = chk n * 16 := by simp [sz, hcn]
        simp [hcn]
        rw [← hs]
        refine fin_step h0 hs0 hs1 hl hw (fun g => ?_) ?_
        · have := hsz g
          rw [wrap64 (x := sz n - n) (by omega), wrap64 (by omega)]
        · rw [wrap64 (by omega)]
    · have h2 : ¬ (i : Int) < xs.length := by omega
      obtain rfl : i = xs.length := by omega
      simp [h2, hl]
      simpa [wsum] using hw
theorem f20 (xs : List Int) (h : xs.length < 9223372036854775808) (hx : ∀ n ∈ xs, rng n) : EvF fes 20 [L xs] [.i (wres xs)] := by
  refine EvF.w (fe := e20) (t := t20) rfl rfl ?_
  simp [t20, e20, L]
  by_cases h0 : 1000 < xs.length
  · simp [h0, wres, show (1000 : Int) < xs.length by omega]
  · have h0' : ¬ (1000 : Int) < xs.length := by omega
    simp [h0', wres, h0]
    refine LW.inv (α := Nat × Int) (fun a => a.1 ≤ xs.length ∧ 0 ≤ a.2 ∧ a.2 ≤ 15 * a.1 ∧ wsum a.2 (xs.drop a.1) = wsum 0 xs) (fun a => [.i a.2, .i a.1]) (fun a => xs.length - a.1) (fun ⟨i, s⟩ ⟨hi, hs0, hs1, hw⟩ => ?_) (a := (0, 0)) (by simp) rfl
    simp only at hi hs0 hs1 hw ⊢
    by_cases hl : i < xs.length
    · have h1 : ¬ ((i : Int) < 0) := by omega
      have h2 : (i : Int) < xs.length := by omega
      simp [hl, h1, h2]
      have hr := hx xs[i] (List.getElem_mem hl)
      rw [wsum_step hl] at hw
      generalize hn : xs[i] = n at hw hr
      refine CW.mk (f16 n) ?_
      simp [hl, h1, h2, hn]
      refine CW.mk (f17 n hr) ?_
      have hc := chk_in n hr
      have hsz := sz_near n
      unfold rng at hr
      rcases cls_nn n with hcn | hcn
      · have hs : sz n = 2 ^ (cls n).toNat := by simp [sz, hcn]
        simp [hl, h1, h2, hn, hcn]
        refine CW.mk (f19z _ (cls_in n hcn)) ?_
        rw [← hs]
        simp
        have hs0' : sz n ≠ 0 := by
          rw [hs]
          rcases cls_in n hcn with e | e | e | e | e <;> rw [e] <;> decide
        have := fin_step (y := IntKind.i64.wrap (i + 1)) (x := IntKind.i64.wrap (IntKind.i64.wrap (s + sz n) - n)) h0 hs0 hs1 hl hw (fun g => by
          have := hsz g
          rw [wrap64 (x := s + sz n) (by omega), wrap64 (by omega)]
          omega) (by rw [wrap64 (by omega)])
        rw [if_neg hs0'] at this
        exact this
      · have hs : sz n = chk n * 16 := by simp [sz, hcn]
        simp [hl, h1, h2, hn, hcn]
        by_cases hk : 0 < chk n
        · simp [hk]
          have hs0' : sz n ≠ 0 := by omega
          have := fin_step (y := IntKind.i64.wrap (i + 1)) (x := IntKind.i64.wrap (IntKind.i64.wrap (s + IntKind.i64.wrap (chk n * 16)) - n)) h0 hs0 hs1 hl hw (fun g => by
            have := hsz g
            rw [← hs, wrap64 (x := sz n) (by omega), wrap64 (x := s + sz n) (by omega), wrap64 (by omega)]
            omega) (by rw [wrap64 (by omega)])
          rw [if_neg hs0'] at this
          exact this
        · have hs0' : sz n = 0 := by omega
          rw [if_pos hs0'] at hw
          simp [hk]
          exact hw
    · have h2 : ¬ (i : Int) < xs.length := by omega
      obtain rfl : i = xs.length := by omega
      simp [h2, hl]
      simpa [wsum] using hw
end Go.Proofs.Ytaaglpobmdpdlaa.FnWaste
