/- The control words and the lists of words: what both sides reckon. -/
import Derived.Test.YtaaglpobmdpdlaaUsesOfPIn
set_option linter.unusedVariables false
set_option linter.unusedSimpArgs false
namespace Go.Proofs.Ytaaglpobmdpdlaa.UsesOf
open Go.BH
attribute [local simp] envA lensOf
theorem f2 (xs : List Nat) (h : xs.length < 281474976710656 / 8) : EvF fes 2 [LN xs] [LN xs] := by
  refine EvF.w (fe := e2) (t := t2) rfl rfl ?_
  have hb : 4 * xs.length ≤ 281474976710656 := by omega
  have hb2 : (xs.length : Int) < 9223372036854775808 := by omega
  simp [t2, e2, LN, hb, hb2]
  refine LW.inv (fun i : Nat => i ≤ xs.length) (fun i => [.i i, .l ((xs.map fun (n : Nat) => D.i (n : Int)).take i ++ List.replicate (xs.length - i) (.i 0))]) (fun i => xs.length - i) (fun i hi => ?_) (a := 0) (by simp) (by simp)
  by_cases hl : i < xs.length
  · have h1 : ¬ ((i : Int) < 0) := by omega
    have h2 : (i : Int) < xs.length := by omega
    simp [hl, h1, h2]
    refine ⟨by omega, i + 1, by omega, by omega, ?_, ?_⟩
    · rw [wrap64 (by omega)]
      simp
    · have := copy_step (ys := xs.map fun (n : Nat) => D.i (n : Int)) (i := i) (n := xs.length) (z := .i 0) (y := .i (xs[i] : Int)) (f := setRow [ku32] 0 (.i (xs[i] : Int))) (by simp) hl (by simp [hl]) (by simp)
      simpa using this
  · have h2 : ¬ (i : Int) < xs.length := by omega
    obtain rfl : i = xs.length := by omega
    simp [h2, hl]
    exact List.take_of_length_le (by simp)
theorem f3 (xs : List Nat) (h : xs.length < 281474976710656 / 8) : EvF fes 3 [LN xs] [LN xs] := by
  refine EvF.w (fe := e3) (t := t3) rfl rfl ?_
  simp [t3, e3]
  refine CW.mk (f2 xs h) ?_
  simp [LN]
theorem f1 (xs : List Nat) (hl : xs.length < 9223372036854775808) : EvF fes 1 [LN xs, .i 1048576] [.i (if xs.length ≤ 1048576 then 1048576 - (xs.length : Int) else -1)] := by
  have f0 : EvF fes 0 [LN xs, .i 1048576] [.i (if xs.length ≤ 1048576 then 1048576 - (xs.length : Int) else -1)] := by
    refine EvF.w (fe := e0) (t := t0) rfl rfl ?_
    simp [t0, e0, LN]
    rw [wrap64 (by omega)]
    by_cases h : xs.length ≤ 1048576
    · simp [h, show ¬ (1048576 - (xs.length : Int) < 0) by omega]
    · simp [h, show (1048576 - (xs.length : Int) < 0) by omega]
  refine EvF.w (fe := e1) (t := t1) rfl rfl ?_
  simp [t1, e1]
  refine CW.mk f0 ?_
  by_cases h : xs.length ≤ 1048576
  · simp [h, show ¬ (1048576 - (xs.length : Int) < 0) by omega]
  · simp [h]
theorem f29 (xs : List Nat) (h : xs.length < 9223372036854775808) : EvF fes 29 [LN xs, LN xs] [.b true] := by
  refine EvF.w (fe := e29) (t := t29) rfl rfl ?_
  simp [t29, e29, LN]
  refine LW.inv (fun i : Nat => i ≤ xs.length) (fun i => [.i i]) (fun i => xs.length - i) (fun i hi => ?_) (a := 0) (by simp) rfl
  by_cases hl : i < xs.length
  · have h1 : ¬ ((i : Int) < 0) := by omega
    have h2 : (i : Int) < xs.length := by omega
    simp [hl, h1, h2]
    refine ⟨i + 1, by omega, by omega, ?_⟩
    rw [wrap64 (by omega)]
    simp
  · have h2 : ¬ (i : Int) < xs.length := by omega
    simp [h2, hl]
theorem f30 (xs : List Nat) (h : xs.length < 9223372036854775808) : EvF fes 30 [LN xs, LN xs] [.b true] := by
  refine EvF.w (fe := e30) (t := t30) rfl rfl ?_
  simp [t30, e30]
  refine CW.mk (f29 xs h) ?_
  simp
/-! ### classes -/
theorem in16 (c : Nat) (h : c < 16) : c = 0 ∨ c = 1 ∨ c = 2 ∨ c = 3 ∨ c = 4 ∨ c = 5 ∨ c = 6 ∨ c = 7 ∨ c = 8 ∨ c = 9 ∨ c = 10 ∨ c = 11 ∨ c = 12 ∨ c = 13 ∨ c = 14 ∨ c = 15 := by omega
def per (c : Nat) : Nat := if c < 5 then 16 / 2 ^ c else 0
theorem f4 (c : Nat) (h : c < 16) : EvF fes 4 [.i c] [.b (decide (c < 5))] := by
  rcases in16 c h with rfl | rfl | rfl | rfl | rfl | rfl | rfl | rfl | rfl | rfl | rfl | rfl | rfl | rfl | rfl | rfl <;> exact EvF.at 20 (by kernel_rfl)
theorem f9 (c : Nat) (h : c < 16) : EvF fes 9 [.i c] [.i (per c)] := by
  rcases in16 c h with rfl | rfl | rfl | rfl | rfl | rfl | rfl | rfl | rfl | rfl | rfl | rfl | rfl | rfl | rfl | rfl <;> exact EvF.at 20 (by kernel_rfl)
theorem f16 (c : Nat) (h : c < 16) : EvF fes 16 [.i c] [.b (decide (c < 5))] := by
  rcases in16 c h with rfl | rfl | rfl | rfl | rfl | rfl | rfl | rfl | rfl | rfl | rfl | rfl | rfl | rfl | rfl | rfl <;> exact EvF.at 20 (by kernel_rfl)
theorem f17 (c : Nat) (h : c < 16) : EvF fes 17 [.i c] [.i (per c)] := by
  rcases in16 c h with rfl | rfl | rfl | rfl | rfl | rfl | rfl | rfl | rfl | rfl | rfl | rfl | rfl | rfl | rfl | rfl <;> exact EvF.at 20 (by kernel_rfl)
/-! ### bits -/
def bitsTo (m i : Nat) : List Nat := (List.range i).map fun j => m / 2 ^ j % 2
theorem bitsTo_succ (m i : Nat) : bitsTo m (i + 1) = bitsTo m i ++ [m / 2 ^ i % 2] := by simp [bitsTo, List.range_succ]
theorem f5 (m : Nat) (h : m < 4294967296) : EvF fes 5 [.i m] [LN (bitsTo m 32)] := by
  refine EvF.w (fe := e5) (t := t5) rfl rfl ?_
  simp [t5, e5]
  refine LW.inv (fun i : Nat => i ≤ 32) (fun i => [.i (m / 2 ^ i : Nat), .i i, LN (bitsTo m i)]) (fun i => 32 - i) (fun i hi => ?_) (a := 0) (by simp) (by simp [LN, bitsTo])
  have hlt : m / 2 ^ i < 4294967296 := Nat.lt_of_le_of_lt (Nat.div_le_self _ _) h
  have hlen : (bitsTo m i).length = i := by simp [bitsTo]
  by_cases hl : i < 32
  · have h2 : (i : Int) < 32 := by omega
    simp [LN, hl, h2, hlen]
    refine ⟨⟨by omega, by omega⟩, i + 1, by omega, by omega, ?_, ?_, ?_⟩
    · rw [divPow, show (2 : Int) = ((2 : Nat) : Int) from rfl, tdivN, wrapU32N (by omega)]
      rw [show ((2 : Nat) : Int) ^ (i + 1) = 2 ^ (i + 1) from rfl, divPow, Nat.pow_succ, Nat.div_div_eq_div_mul]
    · rw [wrap64 (by omega)]
      simp
    · rw [divPow, show (2 : Int) = ((2 : Nat) : Int) from rfl, tmodN, wrap64N (by omega), bitsTo_succ]
      simp
  · obtain rfl : i = 32 := by omega
    simp [LN]
def ons (m i : Nat) : List Nat := (List.range i).filter fun j => m / 2 ^ j % 2 == 1
theorem ons_succ (m i : Nat) : ons m (i + 1) = if m / 2 ^ i % 2 = 1 then ons m i ++ [i] else ons m i := by
  unfold ons
  rw [List.range_succ, List.filter_append]
  by_cases h : m / 2 ^ i % 2 = 1 <;> simp [h]
theorem ons_len (m i : Nat) : (ons m i).length ≤ i := by
  unfold ons
  have := List.length_filter_le (fun j => m / 2 ^ j % 2 == 1) (List.range i)
  simpa using this
theorem f6 (m : Nat) (h : m < 4294967296) : EvF fes 6 [.i m] [LN (ons m 32)] := by
  refine EvF.w (fe := e6) (t := t6) rfl rfl ?_
  simp [t6, e6]
  refine CW.mk (f5 m h) ?_
  have hb : (bitsTo m 32).length = 32 := by simp [bitsTo]
  simp [LN, hb]
  refine LW.inv (fun i : Nat => i ≤ 32) (fun i => [.i i, LN (ons m i)]) (fun i => 32 - i) (fun i hi => ?_) (a := 0) (by simp) (by simp [LN, ons])
  have hlen := ons_len m i
  by_cases hl : i < 32
  · have h2 : (i : Int) < 32 := by omega
    have h3 : ¬ (i : Int) < 0 := by omega
    have hg : (bitsTo m 32)[i]? = some (m / 2 ^ i % 2) := by simp [bitsTo, hl]
    simp [LN, hl, h2, h3, hg]
    refine ⟨by omega, ?_⟩
    rw [divPow]
    by_cases hbit : m / 2 ^ i % 2 = 1
    · rw [if_pos (by omega)]
      refine ⟨⟨by omega, by omega⟩, i + 1, by omega, by omega, ?_, ?_⟩
      · rw [wrap64 (by omega)]
        simp
      · rw [ons_succ, if_pos hbit]
        simp
    · rw [if_neg (by omega)]
      refine ⟨i + 1, by omega, by omega, ?_, ?_⟩
      · rw [wrap64 (by omega)]
        simp
      · rw [ons_succ, if_neg hbit]
  · obtain rfl : i = 32 := by omega
    simp [LN]
/-- The highest bit. -/
def top (m : Nat) : Int := match (ons m 32).getLast? with
  | none => -1
  | some j => j
theorem ons_last (m : Nat) : ∀ i, ((ons m i).getLast? = none ∧ m % 2 ^ i = 0) ∨ ∃ j, (ons m i).getLast? = some j ∧ j < i ∧ 2 ^ j ≤ m % 2 ^ i ∧ m % 2 ^ i < 2 ^ (j + 1)
  | 0 => .inl ⟨rfl, by simp [Nat.mod_one]⟩
  | i + 1 => by
    have hm : m % 2 ^ (i + 1) = m % 2 ^ i + 2 ^ i * (m / 2 ^ i % 2) := Nat.mod_pow_succ
    have hlt : m % 2 ^ i < 2 ^ i := Nat.mod_lt _ (Nat.two_pow_pos i)
    rw [ons_succ]
    by_cases hbit : m / 2 ^ i % 2 = 1
    · rw [if_pos hbit]
      rw [hbit] at hm
      refine .inr ⟨i, by simp, by omega, by omega, by rw [hm, Nat.pow_succ]; omega⟩
    · rw [if_neg hbit]
      have h0 : m / 2 ^ i % 2 = 0 := by omega
      rw [h0, Nat.mul_zero, Nat.add_zero] at hm
      rw [hm]
      rcases ons_last m i with h | ⟨j, h1, h2, h3, h4⟩
      · exact .inl h
      · exact .inr ⟨j, h1, by omega, h3, h4⟩
theorem top_lt {m P : Nat} (h : m < 4294967296) : top m < P ↔ m < 2 ^ P := by
  have hm : m % 2 ^ 32 = m := Nat.mod_eq_of_lt h
  unfold top
  rcases ons_last m 32 with ⟨h1, h2⟩ | ⟨j, h1, h2, h3, h4⟩
  · rw [h1]
    rw [hm] at h2
    subst h2
    have := Nat.two_pow_pos P
    simp only
    constructor
    · intro _; exact this
    · intro _; omega
  · rw [h1]
    rw [hm] at h3 h4
    simp only
    constructor
    · intro g
      have : 2 ^ (j + 1) ≤ 2 ^ P := Nat.pow_le_pow_right (by omega) (by omega)
      omega
    · intro g
      have := (Nat.pow_lt_pow_iff_right (a := 2) (by omega)).1 (Nat.lt_of_le_of_lt h3 g)
      omega
theorem f7 (m : Nat) (h : m < 4294967296) : EvF fes 7 [.i m] [.i (top m)] := by
  refine EvF.w (fe := e7) (t := t7) rfl rfl ?_
  simp [t7, e7]
  refine CW.mk (f6 m h) ?_
  have hlen := ons_len m 32
  unfold top
  generalize ons m 32 = l at hlen
  simp [LN]
  cases l with
  | nil => simp
  | cons x r =>
    rw [wrap64 (by omega)]
    have : (x :: r).getLast? = some ((x :: r)[r.length]) := by
      rw [List.getLast?_eq_getElem?]
      simp
    rw [this]
    simp
    omega
def okc (k c m n : Nat) : Bool := if k = 0 ∨ k = 3 then (decide (c = 0) && decide (m = 0) && decide (n = 0)) else if k = 1 then (decide (c < 5) && decide (m ≠ 0) && decide (m < 2 ^ per c) && decide (n = 0)) else if k = 2 then (decide (c = 0) && decide (m = 0) && decide (2 ≤ n) && decide (n ≤ 16)) else false
theorem two_cases (c : Prop) [Decidable c] {p q : Prop} (h1 : c → p) (h2 : ¬ c → q) : if c then p else q := by
  by_cases h : c
  · rw [if_pos h]; exact h1 h
  · rw [if_neg h]; exact h2 h
theorem f10 (k c m n : Nat) (hc : c < 16) (hm : m < 4294967296) : EvF fes 10 [.i k, .i c, .i m, .i n] [.b (okc k c m n)] := by
  refine EvF.w (fe := e10) (t := t10) rfl rfl ?_
  by_cases h0 : k = 0
  · subst h0
    simp [t10, e10, okc]
    by_cases h1 : c = 0 <;> by_cases h2 : m = 0 <;> simp [h1, h2]
  · by_cases h3 : k = 3
    · subst h3
      simp [t10, e10, okc]
      by_cases h1 : c = 0 <;> by_cases h2 : m = 0 <;> simp [h1, h2]
    · by_cases h1 : k = 1
      · subst h1
        simp [t10, e10, okc]
        refine CW.mk (f4 c hc) ?_
        by_cases g1 : c < 5
        · simp [g1]
          by_cases g2 : m = 0
          · simp [g2]
          · simp [g2]
            refine CW.mk (f7 m hm) ?_
            simp
            refine CW.mk (f9 c hc) ?_
            have := top_lt (P := per c) hm
            by_cases g3 : m < 2 ^ per c
            · simp [g3, this.2 g3]
            · have g4 : ¬ top m < (per c : Int) := fun g => g3 (this.1 g)
              simp [g3, g4]
        · simp [g1]
      · by_cases h2 : k = 2
        · subst h2
          simp [t10, e10, okc]
          by_cases h1 : c = 0 <;> by_cases h2 : m = 0 <;> by_cases h3 : 2 ≤ n <;> simp [h1, h2, h3, show ((2 : Int) ≤ n) = (2 ≤ n) from propext (by omega), show ((n : Int) ≤ 16) = (n ≤ 16) from propext (by omega)]
        · have e0 : ¬ ((k : Int) = 0) := by omega
          have e1 : ¬ ((k : Int) = 1) := by omega
          have e2' : ¬ ((k : Int) = 2) := by omega
          have e3' : ¬ ((k : Int) = 3) := by omega
          simp [t10, e10, okc, h0, h1, h2, h3, e0, e1, e2', e3']
theorem f18 (k c m n : Nat) (hc : c < 16) (hm : m < 65536) : EvF fes 18 [.i k, .i c, .i m, .i n] [.b (okc k c m n)] := by
  refine EvF.w (fe := e18) (t := t18) rfl rfl ?_
  by_cases h0 : k = 0
  · subst h0
    simp [t18, e18, okc]
  · by_cases h3 : k = 3
    · subst h3
      simp [t18, e18, okc]
    · by_cases h1 : k = 1
      · subst h1
        simp [t18, e18, okc]
        refine CW.mk (f16 c hc) ?_
        by_cases g1 : c < 5
        · simp [g1]
          by_cases g2 : m = 0
          · simp [g2]
          · simp [g2]
            refine CW.mk (f17 c hc) ?_
            have hp : per c ≤ 16 := by
              unfold per
              split
              · exact Nat.div_le_self _ _
              · omega
            simp [show ¬ (per c : Int) < 0 by omega]
            have hp2 : 2 ^ per c ≤ 2 ^ 16 := Nat.pow_le_pow_right (by omega) hp
            have hw : IntKind.u32.wrap ((2 : Int) ^ min (per c) IntKind.u32.bits) = ((2 ^ per c : Nat) : Int) := by
              rw [Nat.min_eq_left (show per c ≤ IntKind.u32.bits from Nat.le_trans hp (by decide))]
              rw [show (2 : Int) ^ per c = ((2 ^ per c : Nat) : Int) by push_cast; rfl]
              exact wrapU32N (by omega)
            rw [hw]
            by_cases g3 : m < 2 ^ per c
            · rw [if_pos (by omega)]
              intro _
              exact g3
            · rw [if_neg (by omega)]
              intro g
              exact absurd g g3
        · simp [g1]
      · by_cases h2 : k = 2
        · subst h2
          simp [t18, e18, okc]
          refine CW.mk (f15 _ _ _) ?_
          by_cases h3 : 2 ≤ n <;> by_cases h4 : n ≤ 16 <;> by_cases h1 : c = 0 <;> by_cases h2 : m = 0 <;> simp [h1, h2, h3, h4, show ((2 : Int) ≤ n) = (2 ≤ n) from propext (by omega), show ((n : Int) ≤ 16) = (n ≤ 16) from propext (by omega)] <;> omega
        · have e0 : ¬ ((k : Int) = 0) := by omega
          have e1 : ¬ ((k : Int) = 1) := by omega
          have e2' : ¬ ((k : Int) = 2) := by omega
          have e3' : ¬ ((k : Int) = 3) := by omega
          simp [t18, e18, okc, h0, h1, h2, h3, e0, e1, e2', e3']
/-- What a word says: whether it is a control word, and what it holds. -/
def kd (w : Nat) : Nat := w / 1048576 % 16
def cl (w : Nat) : Nat := w / 65536 % 16
def mk' (w : Nat) : Nat := w % 65536
def pn (w : Nat) : Nat := w / 16777216
def okw (w : Nat) : Bool := okc (kd w) (cl w) (mk' w) (pn w)
def rdw (w : Nat) : List D := if okw w = true then [.b true, .i (kd w), .i (cl w), .i (mk' w), .i (pn w)] else [.b false, .i 0, .i 0, .i 0, .i 0]
theorem f11 (w : Nat) (h : w < 4294967296) : EvF fes 11 [.i w] (rdw w) := by
  refine EvF.w (fe := e11) (t := t11) rfl rfl ?_
  simp [t11, e11]
  rw [wrap64N (by omega)]
  have e1 : IntKind.i64.wrap ((w : Int).tdiv 1048576) = ((w / 1048576 : Nat) : Int) := by
    rw [show (1048576 : Int) = ((1048576 : Nat) : Int) from rfl, tdivN, wrap64N (by omega)]
  have e2 : IntKind.i64.wrap ((w : Int).tdiv 65536) = ((w / 65536 : Nat) : Int) := by
    rw [show (65536 : Int) = ((65536 : Nat) : Int) from rfl, tdivN, wrap64N (by omega)]
  have e3 : IntKind.i64.wrap ((w : Int).tdiv 16777216) = ((pn w : Nat) : Int) := by
    rw [show (16777216 : Int) = ((16777216 : Nat) : Int) from rfl, tdivN, wrap64N (by omega)]
    rfl
  have e4 : (w : Int).tmod 65536 = ((mk' w : Nat) : Int) := rfl
  rw [e1, e2, e3, e4]
  rw [wrapU32N (x := mk' w) (by unfold mk'; omega)]
  rw [show ((w / 1048576 : Nat) : Int).tmod 16 = ((kd w : Nat) : Int) from rfl, show ((w / 65536 : Nat) : Int).tmod 16 = ((cl w : Nat) : Int) from rfl]
  refine CW.mk (f10 _ _ _ _ (by unfold cl; omega) (by unfold mk'; omega)) ?_
  unfold rdw okw
  cases okc (kd w) (cl w) (mk' w) (pn w) <;> simp
theorem and_mask {x : Nat} (j : Nat) (hx : x < 4294967296) (hj : j ≤ 16) : IntKind.u32.wrap ((BitVec.ofInt IntKind.u32.bits (x : Int) &&& BitVec.ofInt IntKind.u32.bits ((2 ^ j - 1 : Nat) : Int)).toNat : Int) = ((x % 2 ^ j : Nat) : Int) := by
  have hp : 2 ^ j ≤ 2 ^ 16 := Nat.pow_le_pow_right (by omega) hj
  have h0 : 0 < 2 ^ j := Nat.two_pow_pos j
  have : (BitVec.ofInt IntKind.u32.bits (x : Int) &&& BitVec.ofInt IntKind.u32.bits ((2 ^ j - 1 : Nat) : Int)).toNat = x % 2 ^ j := by
    rw [BitVec.toNat_and]
    have b : IntKind.u32.bits = 32 := rfl
    rw [b]
    rw [BitVec.toNat_ofInt, BitVec.toNat_ofInt]
    rw [show (((x : Int) % ((2 ^ 32 : Nat) : Int)).toNat) = x by omega, show ((((2 ^ j - 1 : Nat) : Int) % ((2 ^ 32 : Nat) : Int)).toNat) = 2 ^ j - 1 by omega]
    exact Nat.and_two_pow_sub_one_eq_mod x j
  rw [this, wrapU32N]
  have := Nat.mod_lt x h0
  omega
theorem fdivN (x j : Nat) : (x : Int).fdiv (2 ^ j) = ((x / 2 ^ j : Nat) : Int) := by
  rw [show (2 : Int) ^ j = ((2 ^ j : Nat) : Int) by push_cast; rfl, Int.fdiv_eq_ediv_of_nonneg _ (Int.natCast_nonneg _)]
  rfl
theorem shrN (x j : Nat) (hj : j ≤ 32) : (Pr.sh .shr .u32 .u64).eval [.i (x : Int), .i (j : Int)] = some (.i ((x / 2 ^ j : Nat) : Int)) := by
  rw [ev_shr, if_neg (by omega), show min (j : Int).toNat IntKind.u32.bits = j from by rw [Int.toNat_natCast]; exact Nat.min_eq_left hj, fdivN]
theorem andN (x j : Nat) (hx : x < 4294967296) (hj : j ≤ 16) : (Pr.bin .and .u32).eval [.i (x : Int), .i ((2 ^ j - 1 : Nat) : Int)] = some (.i ((x % 2 ^ j : Nat) : Int)) := by
  rw [ev_band, and_mask j hx hj]
theorem f19 (w : Nat) (h : w < 4294967296) : EvF fes 19 [.i w] (rdw w) := by
  refine EvF.w (fe := e19) (t := t19) rfl rfl ?_
  have h20 := shrN w 20 (by omega)
  have h16 := shrN w 16 (by omega)
  have h24 := shrN w 24 (by omega)
  have a20 := andN (w / 2 ^ 20) 4 (Nat.lt_of_le_of_lt (Nat.div_le_self _ _) h) (by omega)
  have a16 := andN (w / 2 ^ 16) 4 (Nat.lt_of_le_of_lt (Nat.div_le_self _ _) h) (by omega)
  have a0 := andN w 16 h (by omega)
  have c1 : (Pr.conv .u32 .i64).eval [.i ((w / 2 ^ 20 % 2 ^ 4 : Nat) : Int)] = some (.i ((kd w : Nat) : Int)) := by
    rw [ev_conv, wrap64N (by omega)]
    rfl
  have c2 : (Pr.conv .u32 .i64).eval [.i ((w / 2 ^ 16 % 2 ^ 4 : Nat) : Int)] = some (.i ((cl w : Nat) : Int)) := by
    rw [ev_conv, wrap64N (by omega)]
    rfl
  have c3 : (Pr.conv .u32 .i64).eval [.i ((w / 2 ^ 24 : Nat) : Int)] = some (.i ((pn w : Nat) : Int)) := by
    rw [ev_conv, wrap64N (by omega)]
    rfl
  have h20' : (Pr.sh .shr .u32 .u64).eval [.i (w : Int), .i 20] = some (.i ((w / 2 ^ 20 : Nat) : Int)) := h20
  have h16' : (Pr.sh .shr .u32 .u64).eval [.i (w : Int), .i 16] = some (.i ((w / 2 ^ 16 : Nat) : Int)) := h16
  have h24' : (Pr.sh .shr .u32 .u64).eval [.i (w : Int), .i 24] = some (.i ((w / 2 ^ 24 : Nat) : Int)) := h24
  have a20' : (Pr.bin .and .u32).eval [.i ((w / 2 ^ 20 : Nat) : Int), .i 15] = some (.i ((w / 2 ^ 20 % 2 ^ 4 : Nat) : Int)) := a20
  have a16' : (Pr.bin .and .u32).eval [.i ((w / 2 ^ 16 : Nat) : Int), .i 15] = some (.i ((w / 2 ^ 16 % 2 ^ 4 : Nat) : Int)) := a16
  have a0' : (Pr.bin .and .u32).eval [.i (w : Int), .i 65535] = some (.i ((mk' w : Nat) : Int)) := a0
  simp only [t19, e19, W_pr, W_call, envA, lensOf, Wm_some, den_v, den_k, List.map_cons, List.map_nil, List.cons_append, List.nil_append, List.getElem?_cons_zero, List.getElem?_cons_succ, Option.getD_some, h20', h16', h24', a20', a16', a0', c1, c2, c3]
  refine CW.mk (f18 _ _ _ _ (by unfold cl; omega) (by unfold mk'; omega)) ?_
  unfold rdw okw
  cases okc (kd w) (cl w) (mk' w) (pn w) <;> simp
theorem f20 (w : Nat) (h : w < 4294967296) : EvF fes 20 [.i w] [.b (!okw w)] := by
  refine EvF.w (fe := e20) (t := t20) rfl rfl ?_
  simp [t20, e20]
  refine CW.mk (f19 w h) ?_
  unfold rdw
  cases okw w <;> simp
/-- A list of control words, and no more of them than may be. -/
def okm (xs : List Nat) : Bool := decide (xs.length ≤ 16) && xs.all okw
theorem f12 (xs : List Nat) (hl : xs.length < 9223372036854775808) (hx : ∀ n ∈ xs, n < 4294967296) : EvF fes 12 [LN xs] [.b (okm xs)] := by
  refine EvF.w (fe := e12) (t := t12) rfl rfl ?_
  simp [t12, e12, LN]
  by_cases h16 : xs.length ≤ 16
  · have h2 : ¬ (16 : Int) < xs.length := by omega
    simp [h2, okm, h16]
    refine LW.inv (fun i : Nat => i ≤ xs.length ∧ (xs.take i).all okw = true) (fun i => [.i i]) (fun i => xs.length - i) (fun i ⟨hi, hp⟩ => ?_) (a := 0) (by simp) rfl
    by_cases hl : i < xs.length
    · have h1 : ¬ ((i : Int) < 0) := by omega
      have h2 : (i : Int) < xs.length := by omega
      simp [hl, h1, h2]
      refine CW.mk (f11 _ (hx _ (List.getElem_mem hl))) ?_
      unfold rdw
      cases ho : okw xs[i] with
      | true =>
        simp
        refine ⟨i + 1, ⟨by omega, ?_⟩, by omega, ?_⟩
        · intro x hx'
          rw [List.take_add_one] at hx'
          rcases List.mem_append.1 hx' with g | g
          · exact List.all_eq_true.1 hp x g
          · simp [hl] at g
            rw [g]
            exact ho
        · rw [wrap64 (by omega)]
          simp
      | false =>
        simp
        exact ⟨_, List.getElem_mem hl, ho⟩
    · have h2 : ¬ (i : Int) < xs.length := by omega
      obtain rfl : i = xs.length := by omega
      simp [h2]
      simpa using hp
  · have h2 : (16 : Int) < xs.length := by omega
    simp [h2, okm, h16]
def bad : Nat → List Nat → Int
  | _, [] => -1
  | i, x :: r => if okw x = true then bad (i + 1) r else i
theorem bad_spec : ∀ (r : List Nat) (i : Nat), (r.all okw = true → bad i r = -1) ∧ (r.all okw = false → (i : Int) ≤ bad i r)
  | [], i => ⟨fun _ => rfl, fun h => by cases h⟩
  | x :: r, i => by
    have ih := bad_spec r (i + 1)
    simp only [List.all_cons, bad]
    cases okw x with
    | true =>
      simp only [Bool.true_and, if_true]
      exact ⟨ih.1, fun h => by have := ih.2 h; omega⟩
    | false => simp
theorem f21 (xs : List Nat) (hl : xs.length < 9223372036854775808) (hx : ∀ n ∈ xs, n < 4294967296) : EvF fes 21 [LN xs] [.i (bad 0 xs)] := by
  refine EvF.w (fe := e21) (t := t21) rfl rfl ?_
  simp [t21, e21, LN]
  refine LW.inv (fun i : Nat => i ≤ xs.length ∧ bad i (xs.drop i) = bad 0 xs) (fun i => [.i i]) (fun i => xs.length - i) (fun i ⟨hi, hp⟩ => ?_) (a := 0) (by simp) rfl
  by_cases hl : i < xs.length
  · have h1 : ¬ ((i : Int) < 0) := by omega
    have h2 : (i : Int) < xs.length := by omega
    simp [hl, h1, h2]
    refine CW.mk (f20 _ (hx _ (List.getElem_mem hl))) ?_
    rw [List.drop_eq_getElem_cons hl, bad] at hp
    cases ho : okw xs[i] with
    | true =>
      rw [ho, if_pos rfl] at hp
      simp
      refine ⟨i + 1, ⟨by omega, hp⟩, by omega, ?_⟩
      rw [wrap64 (by omega)]
      simp
    | false =>
      rw [ho] at hp
      simp
      simpa using hp
  · have h2 : ¬ (i : Int) < xs.length := by omega
    obtain rfl : i = xs.length := by omega
    simp [h2]
    simpa [bad] using hp
theorem f22 (xs : List Nat) (hl : xs.length < 9223372036854775808) (hx : ∀ n ∈ xs, n < 4294967296) : EvF fes 22 [LN xs] [.b (!xs.all okw)] := by
  refine EvF.w (fe := e22) (t := t22) rfl rfl ?_
  simp only [t22, e22, W_call, envA, lensOf, den_v, List.map_cons, List.map_nil, List.cons_append, List.nil_append, List.getElem?_cons_zero, Option.getD_some]
  refine CW.mk (f21 xs hl hx) ?_
  have hb := bad_spec xs 0
  cases h : xs.all okw with
  | true => simp [hb.1 h]
  | false =>
    have := hb.2 h
    simp
    omega
theorem f23 (xs : List Nat) (hl : xs.length < 9223372036854775808) (hx : ∀ n ∈ xs, n < 4294967296) : EvF fes 23 [LN xs] [.b (okm xs)] := by
  refine EvF.w (fe := e23) (t := t23) rfl rfl ?_
  have hL : (Pr.len [ku32]).eval [LN xs] = some (.i xs.length) := by simp [LN]
  simp [t23, e23, hL]
  by_cases h16 : xs.length ≤ 16
  · have h2 : (xs.length : Int) ≤ 16 := by omega
    simp [h2]
    refine CW.mk (f22 xs hl hx) ?_
    simp [okm, h16]
  · have h2 : ¬ (xs.length : Int) ≤ 16 := by omega
    simp [h2, okm, h16]
end Go.Proofs.Ytaaglpobmdpdlaa.UsesOf
