import Derived.Test.YtbialjbfcdhmbaaTWaste
set_option linter.unusedVariables false
set_option linter.unusedSimpArgs false
namespace Go.Proofs.Ytbialjbfcdhmbaa.Waste
open Go.BH
attribute [local simp] envA lensOf
def rng (n : Int) : Prop := -9223372036854775808 ≤ n ∧ n < 9223372036854775808
def cls (n : Int) : Int := if n < 1 ∨ 16 < n then -1 else if n ≤ 1 then 0 else if n ≤ 2 then 1 else if n ≤ 4 then 2 else if n ≤ 8 then 3 else 4
def chk (n : Int) : Int := if n ≤ 16 ∨ 256 < n then 0 else (n + 15) / 16
theorem f0 (x a b : Int) : EvF fes 0 [.i x, .i a, .i b] [.b (decide (a ≤ x) && decide (x ≤ b))] := by
  refine EvF.w (fe := e0) (t := t0) rfl rfl ?_
  simp [t0, e0]
  by_cases h : a ≤ x <;> simp [h]
theorem cls_cases (n : Int) : (n < 1 ∨ 16 < n) ∨ n = 1 ∨ n = 2 ∨ n = 3 ∨ n = 4 ∨ n = 5 ∨ n = 6 ∨ n = 7 ∨ n = 8 ∨ n = 9 ∨ n = 10 ∨ n = 11 ∨ n = 12 ∨ n = 13 ∨ n = 14 ∨ n = 15 ∨ n = 16 := by omega
theorem f4 (n : Int) : EvF fes 4 [.i n] [.i (cls n)] := by
  rcases cls_cases n with h | h | h | h | h | h | h | h | h | h | h | h | h | h | h | h | h
  · refine EvF.w (fe := e4) (t := t4) rfl rfl ?_
    simp [t4, e4]
    refine CW.mk (f0 _ _ _) ?_
    have : ¬ (1 ≤ n ∧ n ≤ 16) := by omega
    simp [this, cls, h]
    try omega
  all_goals
    subst h
    exact EvF.at 20 (by kernel_rfl)
theorem f9 (c : Int) (h : c = 0 ∨ c = 1 ∨ c = 2 ∨ c = 3 ∨ c = 4) : EvF fes 9 [.i c] [.i (2 ^ c.toNat)] := by
  rcases h with rfl | rfl | rfl | rfl | rfl <;> exact EvF.at 20 (by kernel_rfl)
theorem f13 (c : Int) (h : c = 0 ∨ c = 1 ∨ c = 2 ∨ c = 3 ∨ c = 4) : EvF fes 13 [.i c] [.i (2 ^ c.toNat)] := by
  rcases h with rfl | rfl | rfl | rfl | rfl <;> exact EvF.at 20 (by kernel_rfl)
theorem f6 (c : Int) (h : c = 0 ∨ c = 1 ∨ c = 2 ∨ c = 3 ∨ c = 4) : EvF fes 6 [.i c] [.i (2 ^ c.toNat)] := by
  rcases h with rfl | rfl | rfl | rfl | rfl <;> exact EvF.at 20 (by kernel_rfl)
theorem f11 (n : Int) : EvF fes 11 [.i n] [.i (cls n)] := by
  rcases cls_cases n with h | h | h | h | h | h | h | h | h | h | h | h | h | h | h | h | h
  · refine EvF.w (fe := e11) (t := t11) rfl rfl ?_
    have p0 := f9 0 (by simp)
    have p1 := f9 1 (by simp)
    have p2 := f9 2 (by simp)
    have p3 := f9 3 (by simp)
    have p4 := f9 4 (by simp)
    simp at p0 p1 p2 p3 p4
    by_cases h1 : 1 ≤ n
    · have g0 : ¬ n ≤ 1 := by omega
      have g1 : ¬ n ≤ 2 := by omega
      have g2 : ¬ n ≤ 4 := by omega
      have g3 : ¬ n ≤ 8 := by omega
      have g4 : ¬ n ≤ 16 := by omega
      simp [t11, e11]
      refine LW.go ?_
      simp [h1]
      refine CW.mk p0 ?_
      simp [g0, wrap64]
      refine LW.go ?_
      simp [h1]
      refine CW.mk p1 ?_
      simp [g1, wrap64]
      refine LW.go ?_
      simp [h1]
      refine CW.mk p2 ?_
      simp [g2, wrap64]
      refine LW.go ?_
      simp [h1]
      refine CW.mk p3 ?_
      simp [g3, wrap64]
      refine LW.go ?_
      simp [h1]
      refine CW.mk p4 ?_
      simp [g4, wrap64]
      refine LW.go ?_
      simp [h1, cls]
      try omega
    · simp [t11, e11]
      refine LW.go ?_
      simp [h1, cls]
      try omega
  all_goals
    subst h
    exact EvF.at 20 (by kernel_rfl)
theorem f12 (n : Int) (h : rng n) : EvF fes 12 [.i n] [.i (chk n)] := by
  refine EvF.w (fe := e12) (t := t12) rfl rfl ?_
  unfold rng at h
  simp [t12, e12]
  by_cases h1 : n ≤ 16
  · simp [h1, chk]
  · by_cases h2 : 256 < n
    · simp [h1, h2, chk]
    · simp only [h1, h2, chk, if_false, or_self]
      rw [wrap64 (x := n + 16) (by omega), wrap64 (x := n + 16 - 1) (by omega), Int.tdiv_eq_ediv_of_nonneg (by omega), wrap64 (by omega)]
      omega
theorem f7 (n : Int) (h : rng n) : EvF fes 7 [.i n] [.i (chk n)] := by
  refine EvF.w (fe := e7) (t := t7) rfl rfl ?_
  unfold rng at h
  simp [t7, e7]
  refine CW.mk (f0 _ _ _) ?_
  by_cases h1 : 17 ≤ n
  · by_cases h2 : n ≤ 256
    · have : ¬ (n ≤ 16 ∨ 256 < n) := by omega
      simp only [h1, h2, chk, this, decide_true, Bool.and_self, Bool.not_true, List.cons_append, List.nil_append, Option.some.injEq]
      simp
      rw [wrap64 (x := n + 16) (by omega), wrap64 (x := n + 16 - 1) (by omega), Int.tdiv_eq_ediv_of_nonneg (by omega), wrap64 (by omega)]
      omega
    · have : n ≤ 16 ∨ 256 < n := by omega
      simp [h1, h2, chk, this]
  · have : n ≤ 16 ∨ 256 < n := by omega
    simp [h1, chk, this]
/-- What is given for a request of n. -/
def sz (n : Int) : Int := if 0 ≤ cls n then 2 ^ (cls n).toNat else chk n * 16
theorem cls_in (n : Int) (h : 0 ≤ cls n) : cls n = 0 ∨ cls n = 1 ∨ cls n = 2 ∨ cls n = 3 ∨ cls n = 4 := by
  unfold cls at h ⊢
  split at h
  · omega
  · rename_i g
    rw [if_neg g]
    split
    · simp
    · split
      · simp
      · split
        · simp
        · split <;> simp
def wsum : Int → List Int → Int
  | s, [] => s
  | s, n :: r => if sz n = 0 then -1 else wsum (s + (sz n - n)) r
theorem sz_near (n : Int) (h : sz n ≠ 0) : 0 ≤ sz n - n ∧ sz n - n ≤ 15 ∧ 0 ≤ n ∧ n ≤ 256 := by
  rcases cls_cases n with g | g | g | g | g | g | g | g | g | g | g | g | g | g | g | g | g
  · have hc : cls n = -1 := by simp [cls, g]
    unfold sz at h ⊢
    rw [hc] at h ⊢
    rw [if_neg (by omega)] at h ⊢
    unfold chk at h ⊢
    split at h
    · simp at h
    · rename_i g'
      rw [if_neg g']
      omega
  all_goals
    subst g
    decide


theorem chk_in (n : Int) (h : rng n) : 0 ≤ chk n ∧ chk n ≤ 16 := by
  unfold chk
  split <;> omega
def L (xs : List Int) : D := .l (xs.map .i)
theorem get_L {xs : List Int} {i : Nat} (h : i < xs.length) : (xs.map D.i)[i]? = some (.i (xs[i])) := by simp [h]
theorem f16 (xs : List Int) (h : xs.length < 9223372036854775808) : EvF fes 16 [L xs, L xs] [.b true] := by
  refine EvF.w (fe := e16) (t := t16) rfl rfl ?_
  simp [t16, e16, L]
  refine LW.inv (fun i : Nat => i ≤ xs.length) (fun i => [.i i]) (fun i => xs.length - i) (fun i hi => ?_) (a := 0) (by simp) rfl
  by_cases hl : i < xs.length
  · have h1 : ¬ ((i : Int) < 0) := by omega
    have h2 : (i : Int) < xs.length := by omega
    simp [hl, h1, h2]
    refine ⟨i + 1, by omega, by omega, ?_⟩
    rw [wrap64 (by omega)]
    simp
  · have h2 : ¬ (i : Int) < xs.length := by omega
    simp [h2, hl]
theorem copy_step {ys : List D} {i n : Nat} {z y : D} {f : D → D} (hn : ys.length = n) (hi : i < n) (hy : ys[i]? = some y) (hf : f z = y) : (ys.take i ++ List.replicate (n - i) z).modify i f = ys.take (i + 1) ++ List.replicate (n - (i + 1)) z := by
  have ht : (ys.take i).length = i := by simp; omega
  have e1 : List.replicate (n - i) z = z :: List.replicate (n - (i + 1)) z := by
    rw [show n - i = (n - (i + 1)) + 1 by omega, List.replicate_succ]
  have e2 : ys.take (i + 1) = ys.take i ++ [y] := by
    rw [List.take_add_one, hy]
    rfl
  rw [e1, e2, List.append_assoc]
  have : ∀ (a b : List D), a.length = i → (a ++ z :: b).modify i f = a ++ f z :: b := by
    intro a b ha
    subst ha
    clear hi hy ht e1 e2
    induction a with
    | nil => rfl
    | cons x a ih => simp [ih]
  rw [this _ _ ht, hf]
  rfl
theorem f15 (xs : List Int) (h : xs.length < 281474976710656 / 8) : EvF fes 15 [L xs] [L xs] := by
  refine EvF.w (fe := e15) (t := t15) rfl rfl ?_
  have hb : 8 * xs.length ≤ 281474976710656 := by omega
  have hb2 : (xs.length : Int) < 9223372036854775808 := by omega
  simp [t15, e15, L, hb, hb2]
  refine LW.inv (fun i : Nat => i ≤ xs.length) (fun i => [.i i, .l ((xs.take i ++ List.replicate (xs.length - i) 0).map .i)]) (fun i => xs.length - i) (fun i hi => ?_) (a := 0) (by simp) (by simp)
  by_cases hl : i < xs.length
  · have h1 : ¬ ((i : Int) < 0) := by omega
    have h2 : (i : Int) < xs.length := by omega
    simp [hl, h1, h2]
    refine ⟨by omega, i + 1, by omega, by omega, ?_, ?_⟩
    · rw [wrap64 (by omega)]
      simp
    · exact copy_step (y := .i xs[i]) (by simp) hl (by simp [hl]) (by simp)
  · have h2 : ¬ (i : Int) < xs.length := by omega
    obtain rfl : i = xs.length := by omega
    simp [h2, hl]
theorem wsum_step {s : Int} {xs : List Int} {i : Nat} (h : i < xs.length) : wsum s (xs.drop i) = if sz xs[i] = 0 then -1 else wsum (s + (sz xs[i] - xs[i])) (xs.drop (i + 1)) := by
  rw [List.drop_eq_getElem_cons h, wsum]
theorem fin_step {xs : List Int} {i : Nat} {s n T x y : Int} (hlen : ¬ 1000 < xs.length) (hs0 : 0 ≤ s) (hs1 : s ≤ 15 * i) (hl : i < xs.length) (hw : (if sz n = 0 then -1 else wsum (s + (sz n - n)) (xs.drop (i + 1))) = T) (hx : sz n ≠ 0 → x = s + (sz n - n)) (hy : y = i + 1) :
    if sz n = 0 then -1 = T else ∃ (a : Nat) (b : Int), (a ≤ xs.length ∧ 0 ≤ b ∧ b ≤ 15 * a ∧ wsum b (xs.drop a) = T) ∧ xs.length - a < xs.length - i ∧ x = b ∧ y = a := by
  split
  · rename_i h
    rw [if_pos h] at hw
    exact hw
  · rename_i h
    rw [if_neg h] at hw
    have := sz_near n h
    refine ⟨i + 1, s + (sz n - n), ⟨by omega, by omega, by omega, hw⟩, by omega, hx h, by omega⟩
theorem cls_nn (n : Int) : 0 ≤ cls n ∨ cls n = -1 := by
  unfold cls
  split
  · exact .inr rfl
  · left
    repeat' split
    all_goals decide
def wres (xs : List Int) : Int := if 1000 < xs.length then -1 else wsum 0 xs
theorem f8 (xs : List Int) (h : xs.length < 9223372036854775808) (hx : ∀ n ∈ xs, rng n) : EvF fes 8 [L xs] [.i (wres xs)] := by
  refine EvF.w (fe := e8) (t := t8) rfl rfl ?_
  simp [t8, e8, L]
  by_cases h0 : 1000 < xs.length
  · simp [h0, wres, show (1000 : Int) < xs.length by omega]
  · have h0' : ¬ (1000 : Int) < xs.length := by omega
    simp [h0', wres, h0]
    refine LW.inv (α := Nat × Int) (fun a => a.1 ≤ xs.length ∧ 0 ≤ a.2 ∧ a.2 ≤ 15 * a.1 ∧ wsum a.2 (xs.drop a.1) = wsum 0 xs) (fun a => [.i a.2, .i a.1]) (fun a => xs.length - a.1) (fun ⟨i, s⟩ ⟨hi, hs0, hs1, hw⟩ => ?_) (a := (0, 0)) (by simp) rfl
    simp only at hi hs0 hs1 hw ⊢
    by_cases hl : i < xs.length
    · have h1 : ¬ ((i : Int) < 0) := by omega
      have h2 : (i : Int) < xs.length := by omega
      simp [hl, h1, h2]
      have hr := hx xs[i] (List.getElem_mem hl)
      rw [wsum_step hl] at hw
      generalize xs[i] = n at hw hr
      refine CW.mk (f7 n hr) ?_
      have hc := chk_in n hr
      simp
      rw [wrap64 (by omega)]
      refine CW.mk (f4 n) ?_
      have hsz := sz_near n
      unfold rng at hr
      rcases cls_nn n with hcn | hcn
      · have hs : sz n = 2 ^ (cls n).toNat := by simp [sz, hcn]
        simp [hcn]
        refine CW.mk (f6 _ (cls_in n hcn)) ?_
        rw [← hs]
        simp
        refine fin_step h0 hs0 hs1 hl hw (fun g => ?_) ?_
        · have := hsz g
          rw [wrap64 (x := sz n - n) (by omega), wrap64 (by omega)]
        · rw [wrap64 (by omega)]
      · have hs : sz n = chk n * 16 := by simp [sz, hcn]
        simp [hcn]
        rw [← hs]
        refine fin_step h0 hs0 hs1 hl hw (fun g => ?_) ?_
        · have := hsz g
          rw [wrap64 (x := sz n - n) (by omega), wrap64 (by omega)]
        · rw [wrap64 (by omega)]
    · have h2 : ¬ (i : Int) < xs.length := by omega
      obtain rfl : i = xs.length := by omega
      simp [h2, hl]
      simpa [wsum] using hw
theorem f14 (xs : List Int) (h : xs.length < 9223372036854775808) (hx : ∀ n ∈ xs, rng n) : EvF fes 14 [L xs] [.i (wres xs)] := by
  refine EvF.w (fe := e14) (t := t14) rfl rfl ?_
  simp [t14, e14, L]
  by_cases h0 : 1000 < xs.length
  · simp [h0, wres, show (1000 : Int) < xs.length by omega]
  · have h0' : ¬ (1000 : Int) < xs.length := by omega
    simp [h0', wres, h0]
    refine LW.inv (α := Nat × Int) (fun a => a.1 ≤ xs.length ∧ 0 ≤ a.2 ∧ a.2 ≤ 15 * a.1 ∧ wsum a.2 (xs.drop a.1) = wsum 0 xs) (fun a => [.i a.2, .i a.1]) (fun a => xs.length - a.1) (fun ⟨i, s⟩ ⟨hi, hs0, hs1, hw⟩ => ?_) (a := (0, 0)) (by simp) rfl
    simp only at hi hs0 hs1 hw ⊢
    by_cases hl : i < xs.length
    · have h1 : ¬ ((i : Int) < 0) := by omega
      have h2 : (i : Int) < xs.length := by omega
      simp [hl, h1, h2]
      have hr := hx xs[i] (List.getElem_mem hl)
      rw [wsum_step hl] at hw
      generalize hn : xs[i] = n at hw hr
      refine CW.mk (f11 n) ?_
      simp [hl, h1, h2, hn]
      refine CW.mk (f12 n hr) ?_
      have hc := chk_in n hr
      have hsz := sz_near n
      unfold rng at hr
      rcases cls_nn n with hcn | hcn
      · have hs : sz n = 2 ^ (cls n).toNat := by simp [sz, hcn]
        simp [hl, h1, h2, hn, hcn]
        refine CW.mk (f13 _ (cls_in n hcn)) ?_
        rw [← hs]
        simp
        have hs0' : sz n ≠ 0 := by
          rw [hs]
          rcases cls_in n hcn with e | e | e | e | e <;> rw [e] <;> decide
        have := fin_step (y := IntKind.i64.wrap (i + 1)) (x := IntKind.i64.wrap (IntKind.i64.wrap (s + sz n) - n)) h0 hs0 hs1 hl hw (fun g => by
          have := hsz g
          rw [wrap64 (x := s + sz n) (by omega), wrap64 (by omega)]
          omega) (by rw [wrap64 (by omega)])
        rw [if_neg hs0'] at this
        exact this
      · have hs : sz n = chk n * 16 := by simp [sz, hcn]
        simp [hl, h1, h2, hn, hcn]
        by_cases hk : 0 < chk n
        · simp [hk]
          have hs0' : sz n ≠ 0 := by omega
          have := fin_step (y := IntKind.i64.wrap (i + 1)) (x := IntKind.i64.wrap (IntKind.i64.wrap (s + IntKind.i64.wrap (chk n * 16)) - n)) h0 hs0 hs1 hl hw (fun g => by
            have := hsz g
            rw [← hs, wrap64 (x := sz n) (by omega), wrap64 (x := s + sz n) (by omega), wrap64 (by omega)]
            omega) (by rw [wrap64 (by omega)])
          rw [if_neg hs0'] at this
          exact this
        · have hs0' : sz n = 0 := by omega
          rw [if_pos hs0'] at hw
          simp [hk]
          exact hw
    · have h2 : ¬ (i : Int) < xs.length := by omega
      obtain rfl : i = xs.length := by omega
      simp [h2, hl]
      simpa [wsum] using hw
theorem f17 (xs : List Int) (hlen : xs.length < 9223372036854775808) (hx : ∀ n ∈ xs, rng n) : EvF fes 17 [L xs] [.b true] := by
  refine EvF.w (fe := e17) (t := t17) rfl rfl ?_
  simp [t17, e17]
  have hL : (Pr.len [ki64]).eval [L xs] = some (.i xs.length) := by simp [L]
  simp only [hL, Wm_some]
  by_cases h0 : 1048576 < xs.length
  · simp [show (1048576 : Int) < xs.length by omega]
  · have h0' : ¬ (1048576 : Int) < xs.length := by omega
    simp [h0']
    refine CW.mk (f15 xs (by omega)) ?_
    simp [hL]
    refine CW.mk (f14 xs hlen hx) ?_
    simp
    refine CW.mk (f15 xs (by omega)) ?_
    simp [hL]
    refine CW.mk (f8 xs hlen hx) ?_
    simp
    refine CW.mk (f15 xs (by omega)) ?_
    simp [hL]
    refine CW.mk (f16 xs hlen) ?_
    simp
end Go.Proofs.Ytbialjbfcdhmbaa.Waste
