import Derived.Test.YtbacblphkppigaaTAudit
import Derived.Test.YtbacblphkppigaaMW
import Derived.Test.YtbacblphkppigaaMR
set_option linter.unusedVariables false
set_option linter.unusedSimpArgs false
/- within. -/
namespace Go.Proofs.Ytbacblphkppigaa.Audit
open Go.BH
set_option maxRecDepth 100000
theorem f69 (x a b : Int) : EvF fes 69 [.i x, .i a, .i b] [.b (decide (a ≤ x) && decide (x ≤ b))] := by
  refine EvF.w (fe := e69) (t := t69) rfl rfl ?_
  simp only [Ja,Jb,Jc,Jd,Je,Jf,Jg,Jh,Ji,Jj,Jk,Jl,Jm,Jn,Jo,Jp,Jq,Jr,Js,Jt,Ju,Jv,Jw,envA,lensOf,Jx,Jy,Jz,JA,JB,JC,JD,JE,JF,JG,JH,JI,JJ,JK,JL,JM,JN,JO,JP,JQ,JR,JS,JT,JU,JV,JW,↓reduceIte,if_true,reduceCtorEq,Nat.reduceEqDiff,JX,JY,JZ,J0,J1,J2,J3,J4,J5,J6,J7,Ya,Yb,Yc,Yd,Ye,Yf,Int.cast_ofNat_Int,Yg,Yh,Int.reduceLT,Int.reduceLE,Int.reduceEq,Int.reduceAdd,Int.reduceMul,Int.reduceSub,Int.reduceNeg,Yi,Yj,Yk,Yl,Ym,Yn,Yo,Yp,Yq,Yr,Ys,Yt,Yu,Yv,Yw,Yx,Yy,Yz,YA,YB,YC,YD,YE,YF,YG,YH,YI,YJ,YK,YL,YM,YN,YO,YP,YQ,YR,YS,YT, t69, e69, l_dec]
  by_cases h : a ≤ x <;> simp [h]
end Go.Proofs.Ytbacblphkppigaa.Audit

/- Numbers as bytes, as the reference makes them. -/
namespace Go.Proofs.Ytbacblphkppigaa.Audit
open Go.BH
set_option maxRecDepth 100000
/-- The bytes of a number. -/
def nb (n : Nat) : List Nat := if n < 128 then [n] else if n < 16384 then [128 + n % 128, n / 128] else [128 + n % 128, 128 + n / 128 % 128, n / 16384]
theorem nb_lt {n : Nat} (h : n ≤ 65535) : ∀ x ∈ nb n, x < 256 := by
  intro x hx
  unfold nb at hx
  split at hx
  · simp at hx; omega
  · split at hx
    · simp at hx; omega
    · simp at hx; omega
end Go.Proofs.Ytbacblphkppigaa.Audit

/- The control words and the lists of words: what both sides reckon. -/
namespace Go.Proofs.Ytbacblphkppigaa.Audit
open Go.BH
attribute [local simp] envA lensOf
/-! ### classes -/
theorem in16 (c : Nat) (h : c < 16) : c = 0 ∨ c = 1 ∨ c = 2 ∨ c = 3 ∨ c = 4 ∨ c = 5 ∨ c = 6 ∨ c = 7 ∨ c = 8 ∨ c = 9 ∨ c = 10 ∨ c = 11 ∨ c = 12 ∨ c = 13 ∨ c = 14 ∨ c = 15 := by omega
def per (c : Nat) : Nat := if c < 5 then 16 / 2 ^ c else 0
theorem f20 (c : Nat) (h : c < 16) : EvF fes 20 [.i c] [.b (decide (c < 5))] := by
  rcases in16 c h with rfl | rfl | rfl | rfl | rfl | rfl | rfl | rfl | rfl | rfl | rfl | rfl | rfl | rfl | rfl | rfl <;> exact EvF.at 20 (by kernel_rfl)
theorem f21 (c : Nat) (h : c < 16) : EvF fes 21 [.i c] [.i (per c)] := by
  rcases in16 c h with rfl | rfl | rfl | rfl | rfl | rfl | rfl | rfl | rfl | rfl | rfl | rfl | rfl | rfl | rfl | rfl <;> exact EvF.at 20 (by kernel_rfl)
theorem f70 (c : Nat) (h : c < 16) : EvF fes 70 [.i c] [.b (decide (c < 5))] := by
  rcases in16 c h with rfl | rfl | rfl | rfl | rfl | rfl | rfl | rfl | rfl | rfl | rfl | rfl | rfl | rfl | rfl | rfl <;> exact EvF.at 20 (by kernel_rfl)
theorem f71 (c : Nat) (h : c < 16) : EvF fes 71 [.i c] [.i (per c)] := by
  rcases in16 c h with rfl | rfl | rfl | rfl | rfl | rfl | rfl | rfl | rfl | rfl | rfl | rfl | rfl | rfl | rfl | rfl <;> exact EvF.at 20 (by kernel_rfl)
/-! ### bits -/
def bitsTo (m i : Nat) : List Nat := (List.range i).map fun j => m / 2 ^ j % 2
theorem bitsTo_succ (m i : Nat) : bitsTo m (i + 1) = bitsTo m i ++ [m / 2 ^ i % 2] := by simp [bitsTo, List.range_succ]
theorem f10 (m : Nat) (h : m < 4294967296) : EvF fes 10 [.i m] [LN (bitsTo m 32)] := by
  refine EvF.w (fe := e10) (t := t10) rfl rfl ?_
  simp [t10, e10]
  refine LW.inv (fun i : Nat => i ≤ 32) (fun i => [.i (m / 2 ^ i : Nat), .i i, LN (bitsTo m i)]) (fun i => 32 - i) (fun i hi => ?_) (a := 0) (by simp) (by simp [LN, bitsTo])
  have hlt : m / 2 ^ i < 4294967296 := Nat.lt_of_le_of_lt (Nat.div_le_self _ _) h
  have hlen : (bitsTo m i).length = i := by simp [bitsTo]
  by_cases hl : i < 32
  · have h2 : (i : Int) < 32 := by omega
    simp [LN, hl, h2, hlen]
    refine ⟨⟨by omega, by omega⟩, i + 1, by omega, by omega, ?_, ?_, ?_⟩
    · rw [divPow, show (2 : Int) = ((2 : Nat) : Int) from rfl, tdivN, wrapU32N (by omega)]
      rw [show ((2 : Nat) : Int) ^ (i + 1) = 2 ^ (i + 1) from rfl, divPow, Nat.pow_succ, Nat.div_div_eq_div_mul]
    · rw [wrap64 (by omega)]
      simp
    · rw [divPow, show (2 : Int) = ((2 : Nat) : Int) from rfl, tmodN, wrap64N (by omega), bitsTo_succ]
      simp
  · obtain rfl : i = 32 := by omega
    simp [LN]
def ons (m i : Nat) : List Nat := (List.range i).filter fun j => m / 2 ^ j % 2 == 1
theorem ons_succ (m i : Nat) : ons m (i + 1) = if m / 2 ^ i % 2 = 1 then ons m i ++ [i] else ons m i := by
  unfold ons
  rw [List.range_succ, List.filter_append]
  by_cases h : m / 2 ^ i % 2 = 1 <;> simp [h]
theorem ons_len (m i : Nat) : (ons m i).length ≤ i := by
  unfold ons
  have := List.length_filter_le (fun j => m / 2 ^ j % 2 == 1) (List.range i)
  simpa using this
theorem f11 (m : Nat) (h : m < 4294967296) : EvF fes 11 [.i m] [LN (ons m 32)] := by
  refine EvF.w (fe := e11) (t := t11) rfl rfl ?_
  simp [t11, e11]
  refine CW.mk (f10 m h) ?_
  have hb : (bitsTo m 32).length = 32 := by simp [bitsTo]
  simp [LN, hb]
  refine LW.inv (fun i : Nat => i ≤ 32) (fun i => [.i i, LN (ons m i)]) (fun i => 32 - i) (fun i hi => ?_) (a := 0) (by simp) (by simp [LN, ons])
  have hlen := ons_len m i
  by_cases hl : i < 32
  · have h2 : (i : Int) < 32 := by omega
    have h3 : ¬ (i : Int) < 0 := by omega
    have hg : (bitsTo m 32)[i]? = some (m / 2 ^ i % 2) := by simp [bitsTo, hl]
    simp [LN, hl, h2, h3, hg]
    refine ⟨by omega, ?_⟩
    rw [divPow]
    by_cases hbit : m / 2 ^ i % 2 = 1
    · rw [if_pos (by omega)]
      refine ⟨⟨by omega, by omega⟩, i + 1, by omega, by omega, ?_, ?_⟩
      · rw [wrap64 (by omega)]
        simp
      · rw [ons_succ, if_pos hbit]
        simp
    · rw [if_neg (by omega)]
      refine ⟨i + 1, by omega, by omega, ?_, ?_⟩
      · rw [wrap64 (by omega)]
        simp
      · rw [ons_succ, if_neg hbit]
  · obtain rfl : i = 32 := by omega
    simp [LN]
/-- The highest bit. -/
def top (m : Nat) : Int := match (ons m 32).getLast? with
  | none => -1
  | some j => j
theorem ons_last (m : Nat) : ∀ i, ((ons m i).getLast? = none ∧ m % 2 ^ i = 0) ∨ ∃ j, (ons m i).getLast? = some j ∧ j < i ∧ 2 ^ j ≤ m % 2 ^ i ∧ m % 2 ^ i < 2 ^ (j + 1)
  | 0 => .inl ⟨rfl, by simp [Nat.mod_one]⟩
  | i + 1 => by
    have hm : m % 2 ^ (i + 1) = m % 2 ^ i + 2 ^ i * (m / 2 ^ i % 2) := Nat.mod_pow_succ
    have hlt : m % 2 ^ i < 2 ^ i := Nat.mod_lt _ (Nat.two_pow_pos i)
    rw [ons_succ]
    by_cases hbit : m / 2 ^ i % 2 = 1
    · rw [if_pos hbit]
      rw [hbit] at hm
      refine .inr ⟨i, by simp, by omega, by omega, by rw [hm, Nat.pow_succ]; omega⟩
    · rw [if_neg hbit]
      have h0 : m / 2 ^ i % 2 = 0 := by omega
      rw [h0, Nat.mul_zero, Nat.add_zero] at hm
      rw [hm]
      rcases ons_last m i with h | ⟨j, h1, h2, h3, h4⟩
      · exact .inl h
      · exact .inr ⟨j, h1, by omega, h3, h4⟩
theorem top_lt {m P : Nat} (h : m < 4294967296) : top m < P ↔ m < 2 ^ P := by
  have hm : m % 2 ^ 32 = m := Nat.mod_eq_of_lt h
  unfold top
  rcases ons_last m 32 with ⟨h1, h2⟩ | ⟨j, h1, h2, h3, h4⟩
  · rw [h1]
    rw [hm] at h2
    subst h2
    have := Nat.two_pow_pos P
    simp only
    constructor
    · intro _; exact this
    · intro _; omega
  · rw [h1]
    rw [hm] at h3 h4
    simp only
    constructor
    · intro g
      have : 2 ^ (j + 1) ≤ 2 ^ P := Nat.pow_le_pow_right (by omega) (by omega)
      omega
    · intro g
      have := (Nat.pow_lt_pow_iff_right (a := 2) (by omega)).1 (Nat.lt_of_le_of_lt h3 g)
      omega
theorem f12 (m : Nat) (h : m < 4294967296) : EvF fes 12 [.i m] [.i (top m)] := by
  refine EvF.w (fe := e12) (t := t12) rfl rfl ?_
  simp [t12, e12]
  refine CW.mk (f11 m h) ?_
  have hlen := ons_len m 32
  unfold top
  generalize ons m 32 = l at hlen
  simp [LN]
  cases l with
  | nil => simp
  | cons x r =>
    rw [wrap64 (by omega)]
    have : (x :: r).getLast? = some ((x :: r)[r.length]) := by
      rw [List.getLast?_eq_getElem?]
      simp
    rw [this]
    simp
    omega
def okc (k c m n : Nat) : Bool := if k = 0 ∨ k = 3 then (decide (c = 0) && decide (m = 0) && decide (n = 0)) else if k = 1 then (decide (c < 5) && decide (m ≠ 0) && decide (m < 2 ^ per c) && decide (n = 0)) else if k = 2 then (decide (c = 0) && decide (m = 0) && decide (2 ≤ n) && decide (n ≤ 16)) else false
theorem two_cases (c : Prop) [Decidable c] {p q : Prop} (h1 : c → p) (h2 : ¬ c → q) : if c then p else q := by
  by_cases h : c
  · rw [if_pos h]; exact h1 h
  · rw [if_neg h]; exact h2 h
theorem f22 (k c m n : Nat) (hc : c < 16) (hm : m < 4294967296) : EvF fes 22 [.i k, .i c, .i m, .i n] [.b (okc k c m n)] := by
  refine EvF.w (fe := e22) (t := t22) rfl rfl ?_
  by_cases h0 : k = 0
  · subst h0
    simp [t22, e22, okc]
    by_cases h1 : c = 0 <;> by_cases h2 : m = 0 <;> simp [h1, h2]
  · by_cases h3 : k = 3
    · subst h3
      simp [t22, e22, okc]
      by_cases h1 : c = 0 <;> by_cases h2 : m = 0 <;> simp [h1, h2]
    · by_cases h1 : k = 1
      · subst h1
        simp [t22, e22, okc]
        refine CW.mk (f20 c hc) ?_
        by_cases g1 : c < 5
        · simp [g1]
          by_cases g2 : m = 0
          · simp [g2]
          · simp [g2]
            refine CW.mk (f12 m hm) ?_
            simp
            refine CW.mk (f21 c hc) ?_
            have := top_lt (P := per c) hm
            by_cases g3 : m < 2 ^ per c
            · simp [g3, this.2 g3]
            · have g4 : ¬ top m < (per c : Int) := fun g => g3 (this.1 g)
              simp [g3, g4]
        · simp [g1]
      · by_cases h2 : k = 2
        · subst h2
          simp [t22, e22, okc]
          by_cases h1 : c = 0 <;> by_cases h2 : m = 0 <;> by_cases h3 : 2 ≤ n <;> simp [h1, h2, h3, show ((2 : Int) ≤ n) = (2 ≤ n) from propext (by omega), show ((n : Int) ≤ 16) = (n ≤ 16) from propext (by omega)]
        · have e0 : ¬ ((k : Int) = 0) := by omega
          have e1 : ¬ ((k : Int) = 1) := by omega
          have e2' : ¬ ((k : Int) = 2) := by omega
          have e3' : ¬ ((k : Int) = 3) := by omega
          simp [t22, e22, okc, h0, h1, h2, h3, e0, e1, e2', e3']
theorem f72 (k c m n : Nat) (hc : c < 16) (hm : m < 65536) : EvF fes 72 [.i k, .i c, .i m, .i n] [.b (okc k c m n)] := by
  refine EvF.w (fe := e72) (t := t72) rfl rfl ?_
  by_cases h0 : k = 0
  · subst h0
    simp [t72, e72, okc]
  · by_cases h3 : k = 3
    · subst h3
      simp [t72, e72, okc]
    · by_cases h1 : k = 1
      · subst h1
        simp [t72, e72, okc]
        refine CW.mk (f70 c hc) ?_
        by_cases g1 : c < 5
        · simp [g1]
          by_cases g2 : m = 0
          · simp [g2]
          · simp [g2]
            refine CW.mk (f71 c hc) ?_
            have hp : per c ≤ 16 := by
              unfold per
              split
              · exact Nat.div_le_self _ _
              · omega
            simp [show ¬ (per c : Int) < 0 by omega]
            have hp2 : 2 ^ per c ≤ 2 ^ 16 := Nat.pow_le_pow_right (by omega) hp
            have hw : IntKind.u32.wrap ((2 : Int) ^ min (per c) IntKind.u32.bits) = ((2 ^ per c : Nat) : Int) := by
              rw [Nat.min_eq_left (show per c ≤ IntKind.u32.bits from Nat.le_trans hp (by decide))]
              rw [show (2 : Int) ^ per c = ((2 ^ per c : Nat) : Int) by push_cast; rfl]
              exact wrapU32N (by omega)
            rw [hw]
            by_cases g3 : m < 2 ^ per c
            · rw [if_pos (by omega)]
              intro _
              exact g3
            · rw [if_neg (by omega)]
              intro g
              exact absurd g g3
        · simp [g1]
      · by_cases h2 : k = 2
        · subst h2
          simp [t72, e72, okc]
          refine CW.mk (f69 _ _ _) ?_
          by_cases h3 : 2 ≤ n <;> by_cases h4 : n ≤ 16 <;> by_cases h1 : c = 0 <;> by_cases h2 : m = 0 <;> simp [h1, h2, h3, h4, show ((2 : Int) ≤ n) = (2 ≤ n) from propext (by omega), show ((n : Int) ≤ 16) = (n ≤ 16) from propext (by omega)] <;> omega
        · have e0 : ¬ ((k : Int) = 0) := by omega
          have e1 : ¬ ((k : Int) = 1) := by omega
          have e2' : ¬ ((k : Int) = 2) := by omega
          have e3' : ¬ ((k : Int) = 3) := by omega
          simp [t72, e72, okc, h0, h1, h2, h3, e0, e1, e2', e3']
/-- What a word says: whether it is a control word, and what it holds. -/
def kd (w : Nat) : Nat := w / 1048576 % 16
def cl (w : Nat) : Nat := w / 65536 % 16
def mk' (w : Nat) : Nat := w % 65536
def pn (w : Nat) : Nat := w / 16777216
def okw (w : Nat) : Bool := okc (kd w) (cl w) (mk' w) (pn w)
def rdw (w : Nat) : List D := if okw w = true then [.b true, .i (kd w), .i (cl w), .i (mk' w), .i (pn w)] else [.b false, .i 0, .i 0, .i 0, .i 0]
theorem f23 (w : Nat) (h : w < 4294967296) : EvF fes 23 [.i w] (rdw w) := by
  refine EvF.w (fe := e23) (t := t23) rfl rfl ?_
  simp [t23, e23]
  rw [wrap64N (by omega)]
  have e1 : IntKind.i64.wrap ((w : Int).tdiv 1048576) = ((w / 1048576 : Nat) : Int) := by
    rw [show (1048576 : Int) = ((1048576 : Nat) : Int) from rfl, tdivN, wrap64N (by omega)]
  have e2 : IntKind.i64.wrap ((w : Int).tdiv 65536) = ((w / 65536 : Nat) : Int) := by
    rw [show (65536 : Int) = ((65536 : Nat) : Int) from rfl, tdivN, wrap64N (by omega)]
  have e3 : IntKind.i64.wrap ((w : Int).tdiv 16777216) = ((pn w : Nat) : Int) := by
    rw [show (16777216 : Int) = ((16777216 : Nat) : Int) from rfl, tdivN, wrap64N (by omega)]
    rfl
  have e4 : (w : Int).tmod 65536 = ((mk' w : Nat) : Int) := rfl
  rw [e1, e2, e3, e4]
  rw [wrapU32N (x := mk' w) (by unfold mk'; omega)]
  rw [show ((w / 1048576 : Nat) : Int).tmod 16 = ((kd w : Nat) : Int) from rfl, show ((w / 65536 : Nat) : Int).tmod 16 = ((cl w : Nat) : Int) from rfl]
  refine CW.mk (f22 _ _ _ _ (by unfold cl; omega) (by unfold mk'; omega)) ?_
  unfold rdw okw
  cases okc (kd w) (cl w) (mk' w) (pn w) <;> simp
theorem and_mask {x : Nat} (j : Nat) (hx : x < 4294967296) (hj : j ≤ 16) : IntKind.u32.wrap ((BitVec.ofInt IntKind.u32.bits (x : Int) &&& BitVec.ofInt IntKind.u32.bits ((2 ^ j - 1 : Nat) : Int)).toNat : Int) = ((x % 2 ^ j : Nat) : Int) := by
  have hp : 2 ^ j ≤ 2 ^ 16 := Nat.pow_le_pow_right (by omega) hj
  have h0 : 0 < 2 ^ j := Nat.two_pow_pos j
  have : (BitVec.ofInt IntKind.u32.bits (x : Int) &&& BitVec.ofInt IntKind.u32.bits ((2 ^ j - 1 : Nat) : Int)).toNat = x % 2 ^ j := by
    rw [BitVec.toNat_and]
    have b : IntKind.u32.bits = 32 := rfl
    rw [b]
    rw [BitVec.toNat_ofInt, BitVec.toNat_ofInt]
    rw [show (((x : Int) % ((2 ^ 32 : Nat) : Int)).toNat) = x by omega, show ((((2 ^ j - 1 : Nat) : Int) % ((2 ^ 32 : Nat) : Int)).toNat) = 2 ^ j - 1 by omega]
    exact Nat.and_two_pow_sub_one_eq_mod x j
  rw [this, wrapU32N]
  have := Nat.mod_lt x h0
  omega
theorem fdivN (x j : Nat) : (x : Int).fdiv (2 ^ j) = ((x / 2 ^ j : Nat) : Int) := by
  rw [show (2 : Int) ^ j = ((2 ^ j : Nat) : Int) by push_cast; rfl, Int.fdiv_eq_ediv_of_nonneg _ (Int.natCast_nonneg _)]
  rfl
theorem shrN (x j : Nat) (hj : j ≤ 32) : (Pr.sh .shr .u32 .u64).eval [.i (x : Int), .i (j : Int)] = some (.i ((x / 2 ^ j : Nat) : Int)) := by
  rw [ev_shr, if_neg (by omega), show min (j : Int).toNat IntKind.u32.bits = j from by rw [Int.toNat_natCast]; exact Nat.min_eq_left hj, fdivN]
theorem andN (x j : Nat) (hx : x < 4294967296) (hj : j ≤ 16) : (Pr.bin .and .u32).eval [.i (x : Int), .i ((2 ^ j - 1 : Nat) : Int)] = some (.i ((x % 2 ^ j : Nat) : Int)) := by
  rw [ev_band, and_mask j hx hj]
theorem f73 (w : Nat) (h : w < 4294967296) : EvF fes 73 [.i w] (rdw w) := by
  refine EvF.w (fe := e73) (t := t73) rfl rfl ?_
  have h20 := shrN w 20 (by omega)
  have h16 := shrN w 16 (by omega)
  have h24 := shrN w 24 (by omega)
  have a20 := andN (w / 2 ^ 20) 4 (Nat.lt_of_le_of_lt (Nat.div_le_self _ _) h) (by omega)
  have a16 := andN (w / 2 ^ 16) 4 (Nat.lt_of_le_of_lt (Nat.div_le_self _ _) h) (by omega)
  have a0 := andN w 16 h (by omega)
  have c1 : (Pr.conv .u32 .i64).eval [.i ((w / 2 ^ 20 % 2 ^ 4 : Nat) : Int)] = some (.i ((kd w : Nat) : Int)) := by
    rw [ev_conv, wrap64N (by omega)]
    rfl
  have c2 : (Pr.conv .u32 .i64).eval [.i ((w / 2 ^ 16 % 2 ^ 4 : Nat) : Int)] = some (.i ((cl w : Nat) : Int)) := by
    rw [ev_conv, wrap64N (by omega)]
    rfl
  have c3 : (Pr.conv .u32 .i64).eval [.i ((w / 2 ^ 24 : Nat) : Int)] = some (.i ((pn w : Nat) : Int)) := by
    rw [ev_conv, wrap64N (by omega)]
    rfl
  have h20' : (Pr.sh .shr .u32 .u64).eval [.i (w : Int), .i 20] = some (.i ((w / 2 ^ 20 : Nat) : Int)) := h20
  have h16' : (Pr.sh .shr .u32 .u64).eval [.i (w : Int), .i 16] = some (.i ((w / 2 ^ 16 : Nat) : Int)) := h16
  have h24' : (Pr.sh .shr .u32 .u64).eval [.i (w : Int), .i 24] = some (.i ((w / 2 ^ 24 : Nat) : Int)) := h24
  have a20' : (Pr.bin .and .u32).eval [.i ((w / 2 ^ 20 : Nat) : Int), .i 15] = some (.i ((w / 2 ^ 20 % 2 ^ 4 : Nat) : Int)) := a20
  have a16' : (Pr.bin .and .u32).eval [.i ((w / 2 ^ 16 : Nat) : Int), .i 15] = some (.i ((w / 2 ^ 16 % 2 ^ 4 : Nat) : Int)) := a16
  have a0' : (Pr.bin .and .u32).eval [.i (w : Int), .i 65535] = some (.i ((mk' w : Nat) : Int)) := a0
  simp only [t73, e73, W_pr, W_call, envA, lensOf, Wm_some, den_v, den_k, List.map_cons, List.map_nil, List.cons_append, List.nil_append, List.getElem?_cons_zero, List.getElem?_cons_succ, Option.getD_some, h20', h16', h24', a20', a16', a0', c1, c2, c3]
  refine CW.mk (f72 _ _ _ _ (by unfold cl; omega) (by unfold mk'; omega)) ?_
  unfold rdw okw
  cases okc (kd w) (cl w) (mk' w) (pn w) <;> simp
theorem f74 (w : Nat) (h : w < 4294967296) : EvF fes 74 [.i w] [.b (!okw w)] := by
  refine EvF.w (fe := e74) (t := t74) rfl rfl ?_
  simp [t74, e74]
  refine CW.mk (f73 w h) ?_
  unfold rdw
  cases okw w <;> simp
/-- A list of control words, and no more of them than may be. -/
def okm (xs : List Nat) : Bool := decide (xs.length ≤ 16) && xs.all okw
theorem f35 (xs : List Nat) (hl : xs.length < 9223372036854775808) (hx : ∀ n ∈ xs, n < 4294967296) : EvF fes 35 [LN xs] [.b (okm xs)] := by
  refine EvF.w (fe := e35) (t := t35) rfl rfl ?_
  simp [t35, e35, LN]
  by_cases h16 : xs.length ≤ 16
  · have h2 : ¬ (16 : Int) < xs.length := by omega
    simp [h2, okm, h16]
    refine LW.inv (fun i : Nat => i ≤ xs.length ∧ (xs.take i).all okw = true) (fun i => [.i i]) (fun i => xs.length - i) (fun i ⟨hi, hp⟩ => ?_) (a := 0) (by simp) rfl
    by_cases hl : i < xs.length
    · have h1 : ¬ ((i : Int) < 0) := by omega
      have h2 : (i : Int) < xs.length := by omega
      simp [hl, h1, h2]
      refine CW.mk (f23 _ (hx _ (List.getElem_mem hl))) ?_
      unfold rdw
      cases ho : okw xs[i] with
      | true =>
        simp
        refine ⟨i + 1, ⟨by omega, ?_⟩, by omega, ?_⟩
        · intro x hx'
          rw [List.take_add_one] at hx'
          rcases List.mem_append.1 hx' with g | g
          · exact List.all_eq_true.1 hp x g
          · simp [hl] at g
            rw [g]
            exact ho
        · rw [wrap64 (by omega)]
          simp
      | false =>
        simp
        exact ⟨_, List.getElem_mem hl, ho⟩
    · have h2 : ¬ (i : Int) < xs.length := by omega
      obtain rfl : i = xs.length := by omega
      simp [h2]
      simpa using hp
  · have h2 : (16 : Int) < xs.length := by omega
    simp [h2, okm, h16]
def bad : Nat → List Nat → Int
  | _, [] => -1
  | i, x :: r => if okw x = true then bad (i + 1) r else i
theorem bad_spec : ∀ (r : List Nat) (i : Nat), (r.all okw = true → bad i r = -1) ∧ (r.all okw = false → (i : Int) ≤ bad i r)
  | [], i => ⟨fun _ => rfl, fun h => by cases h⟩
  | x :: r, i => by
    have ih := bad_spec r (i + 1)
    simp only [List.all_cons, bad]
    cases okw x with
    | true =>
      simp only [Bool.true_and, if_true]
      exact ⟨ih.1, fun h => by have := ih.2 h; omega⟩
    | false => simp
theorem f75 (xs : List Nat) (hl : xs.length < 9223372036854775808) (hx : ∀ n ∈ xs, n < 4294967296) : EvF fes 75 [LN xs] [.i (bad 0 xs)] := by
  refine EvF.w (fe := e75) (t := t75) rfl rfl ?_
  simp [t75, e75, LN]
  refine LW.inv (fun i : Nat => i ≤ xs.length ∧ bad i (xs.drop i) = bad 0 xs) (fun i => [.i i]) (fun i => xs.length - i) (fun i ⟨hi, hp⟩ => ?_) (a := 0) (by simp) rfl
  by_cases hl : i < xs.length
  · have h1 : ¬ ((i : Int) < 0) := by omega
    have h2 : (i : Int) < xs.length := by omega
    simp [hl, h1, h2]
    refine CW.mk (f74 _ (hx _ (List.getElem_mem hl))) ?_
    rw [List.drop_eq_getElem_cons hl, bad] at hp
    cases ho : okw xs[i] with
    | true =>
      rw [ho, if_pos rfl] at hp
      simp
      refine ⟨i + 1, ⟨by omega, hp⟩, by omega, ?_⟩
      rw [wrap64 (by omega)]
      simp
    | false =>
      rw [ho] at hp
      simp
      simpa using hp
  · have h2 : ¬ (i : Int) < xs.length := by omega
    obtain rfl : i = xs.length := by omega
    simp [h2]
    simpa [bad] using hp
theorem f76 (xs : List Nat) (hl : xs.length < 9223372036854775808) (hx : ∀ n ∈ xs, n < 4294967296) : EvF fes 76 [LN xs] [.b (!xs.all okw)] := by
  refine EvF.w (fe := e76) (t := t76) rfl rfl ?_
  simp only [t76, e76, W_call, envA, lensOf, den_v, List.map_cons, List.map_nil, List.cons_append, List.nil_append, List.getElem?_cons_zero, Option.getD_some]
  refine CW.mk (f75 xs hl hx) ?_
  have hb := bad_spec xs 0
  cases h : xs.all okw with
  | true => simp [hb.1 h]
  | false =>
    have := hb.2 h
    simp
    omega
theorem f77 (xs : List Nat) (hl : xs.length < 9223372036854775808) (hx : ∀ n ∈ xs, n < 4294967296) : EvF fes 77 [LN xs] [.b (okm xs)] := by
  refine EvF.w (fe := e77) (t := t77) rfl rfl ?_
  have hL : (Pr.len [ku32]).eval [LN xs] = some (.i xs.length) := by simp [LN]
  simp [t77, e77, hL]
  by_cases h16 : xs.length ≤ 16
  · have h2 : (xs.length : Int) ≤ 16 := by omega
    simp [h2]
    refine CW.mk (f76 xs hl hx) ?_
    simp [okm, h16]
  · have h2 : ¬ (xs.length : Int) ≤ 16 := by omega
    simp [h2, okm, h16]
end Go.Proofs.Ytbacblphkppigaa.Audit

/- The cursor that draws: what its numbers may be. -/
namespace Go.Proofs.Ytbacblphkppigaa.Audit
open Go.BH
set_option maxRecDepth 100000
theorem tmodLt {x y : Nat} (h : 0 < y) : (x : Int).tmod y = ((x % y : Nat) : Int) := rfl
/-- A cursor: it has drawn at most B numbers; its seed is small. -/
structure Cur (cs : List Nat) (a s B : Nat) : Prop where
  at' : a ≤ B
  lim : B ≤ 1000000000000
  seed : s < 65521
theorem Cur.mono {cs : List Nat} {a s B C : Nat} (h : Cur cs a s B) (hb : B ≤ C) (hc : C ≤ 1000000000000) : Cur cs a s C := ⟨by have := h.at'; omega, hc, h.seed⟩
/-- A code. -/
structure Code (cs : List Nat) : Prop where
  len : cs.length ≤ 1048576
  byte : ∀ x ∈ cs, x < 256
theorem pick {cs : List Nat} (hc : Code cs) {a s B : Nat} (h : Cur cs a s B) (hB : B + 1 ≤ 1000000000000) (n : Nat) (hn : 0 < n) (hn' : n < 1000000000000) : ∃ x a' s' : Nat, EvF fes 2 [LN cs, .i a, .i s, .i n] [.i x, .i a', .i s'] ∧ x < n ∧ Cur cs a' s' (B + 1) := by
  obtain ⟨ha, hlim, hs⟩ := h
  have hl := hc.len
  by_cases n2 : n < 2
  · refine ⟨0, a, s, ?_, by omega, by omega, hB, hs⟩
    refine EvF.w (fe := e2) (t := t2) rfl rfl ?_
    have n2' : (n : Int) < 2 := by omega
    rw [show envA e2.sig [LN cs, .i (a : Int), .i (s : Int), .i (n : Int)] = [LN cs, .i (a : Int), .i (s : Int), .i (n : Int)] from rfl]
    simp only [Ja,Jb,Jc,Jd,Je,Jf,Jg,Jh,Ji,Jj,Jk,Jl,Jm,Jn,Jo,Jp,Jq,Jr,Js,Jt,Ju,Jv,Jw,envA,lensOf,Jx,Jy,Jz,JA,JB,JC,JD,JE,JF,JG,JH,JI,JJ,JK,JL,JM,JN,JO,JP,JQ,JR,JS,JT,JU,JV,JW,↓reduceIte,if_true,reduceCtorEq,Nat.reduceEqDiff,JX,JY,JZ,J0,J1,J2,J3,J4,J5,J6,J7,Ya,Yb,Yc,Yd,Ye,Yf,Int.cast_ofNat_Int,Yg,Yh,Int.reduceLT,Int.reduceLE,Int.reduceEq,Int.reduceAdd,Int.reduceMul,Int.reduceSub,Int.reduceNeg,Yi,Yj,Yk,Yl,Ym,Yn,Yo,Yp,Yq,Yr,Ys,Yt,Yu,Yv,Yw,Yx,Yy,Yz,YA,YB,YC,YD,YE,YF,YG,YH,YI,YJ,YK,YL,YM,YN,YO,YP,YQ,YR,YS,YT, t2, n2']
  have n2' : ¬ (n : Int) < 2 := by omega
  have nz : ¬ (n : Int) = 0 := by omega
  have md : ∀ x : Nat, (x : Int).tmod (n : Int) = ((x % n : Nat) : Int) := fun x => rfl
  have p1 : ∀ b : Nat, ((b : Int) + 1) = ((b + 1 : Nat) : Int) := fun b => by omega
  have hev := rfl (a := envA e2.sig [LN cs, .i (a : Int), .i (s : Int), .i (n : Int)])
  by_cases hal : a < cs.length
  · have hal' : (a : Int) < cs.length := by omega
    have hb := hc.byte _ (List.getElem_mem hal)
    refine ⟨cs[a] % n, a + 1, s, ?_, Nat.mod_lt _ hn, by omega, by omega, hs⟩
    refine EvF.w (fe := e2) (t := t2) rfl rfl ?_
    rw [show envA e2.sig [LN cs, .i (a : Int), .i (s : Int), .i (n : Int)] = [LN cs, .i (a : Int), .i (s : Int), .i (n : Int)] from rfl]
    (repeat (first | simp (disch := omega) only [wrap64, wrapU32, wrapU64, wrapU8] | simp only [Ja,Jb,Jc,Jd,Je,Jf,Jg,Jh,Ji,Jj,Jk,Jl,Jm,Jn,Jo,Jp,Jq,Jr,Js,Jt,Ju,Jv,Jw,envA,lensOf,Jx,Jy,Jz,JA,JB,JC,JD,JE,JF,JG,JH,JI,JJ,JK,JL,JM,JN,JO,JP,JQ,JR,JS,JT,JU,JV,JW,↓reduceIte,if_true,reduceCtorEq,Nat.reduceEqDiff,JX,JY,JZ,J0,J1,J2,J3,J4,J5,J6,J7,Ya,Yb,Yc,Yd,Ye,Yf,Int.cast_ofNat_Int,Yg,Yh,Int.reduceLT,Int.reduceLE,Int.reduceEq,Int.reduceAdd,Int.reduceMul,Int.reduceSub,Int.reduceNeg,Yi,Yj,Yk,Yl,Ym,Yn,Yo,Yp,Yq,Yr,Ys,Yt,Yu,Yv,Yw,Yx,Yy,Yz,YA,YB,YC,YD,YE,YF,YG,YH,YI,YJ,YK,YL,YM,YN,YO,YP,YQ,YR,YS,YT, t2, n2', hal', ixc_N hal, get_LN hal, nz, md, p1]))
  · have hal' : ¬ (a : Int) < cs.length := by omega
    have q1 : (s : Int) * 1103 + 12345 = ((s * 1103 + 12345 : Nat) : Int) := by omega
    have q2 : ((s * 1103 + 12345 : Nat) : Int).tmod 65521 = (((s * 1103 + 12345) % 65521 : Nat) : Int) := rfl
    have q3 : ¬ (65521 : Int) = 0 := by omega
    have hs' : (s * 1103 + 12345) % 65521 < 65521 := Nat.mod_lt _ (by omega)
    generalize hS : (s * 1103 + 12345) % 65521 = s' at q2 hs'
    by_cases hl0 : 0 < cs.length
    · have hl0' : (0 : Int) < cs.length := by omega
      have hm : a % cs.length < cs.length := Nat.mod_lt _ hl0
      have hb := hc.byte _ (List.getElem_mem hm)
      have d7 : (s' : Int).tdiv 7 = ((s' / 7 : Nat) : Int) := rfl
      have q4 : (a : Int).tmod (cs.length : Int) = ((a % cs.length : Nat) : Int) := rfl
      have q5 : ¬ (cs.length : Int) = 0 := by omega
      have q6 : ((s' / 7 : Nat) : Int) + (cs[a % cs.length] : Int) = ((s' / 7 + cs[a % cs.length] : Nat) : Int) := by omega
      have q7 : ((a % cs.length : Nat) : Int) < cs.length := by omega
      refine ⟨(s' / 7 + cs[a % cs.length]) % n, a + 1, s', ?_, Nat.mod_lt _ hn, by omega, by omega, hs'⟩
      refine EvF.w (fe := e2) (t := t2) rfl rfl ?_
      rw [show envA e2.sig [LN cs, .i (a : Int), .i (s : Int), .i (n : Int)] = [LN cs, .i (a : Int), .i (s : Int), .i (n : Int)] from rfl]
      (repeat (first | simp (disch := omega) only [wrap64, wrapU32, wrapU64, wrapU8] | simp only [Ja,Jb,Jc,Jd,Je,Jf,Jg,Jh,Ji,Jj,Jk,Jl,Jm,Jn,Jo,Jp,Jq,Jr,Js,Jt,Ju,Jv,Jw,envA,lensOf,Jx,Jy,Jz,JA,JB,JC,JD,JE,JF,JG,JH,JI,JJ,JK,JL,JM,JN,JO,JP,JQ,JR,JS,JT,JU,JV,JW,↓reduceIte,if_true,reduceCtorEq,Nat.reduceEqDiff,JX,JY,JZ,J0,J1,J2,J3,J4,J5,J6,J7,Ya,Yb,Yc,Yd,Ye,Yf,Int.cast_ofNat_Int,Yg,Yh,Int.reduceLT,Int.reduceLE,Int.reduceEq,Int.reduceAdd,Int.reduceMul,Int.reduceSub,Int.reduceNeg,Yi,Yj,Yk,Yl,Ym,Yn,Yo,Yp,Yq,Yr,Ys,Yt,Yu,Yv,Yw,Yx,Yy,Yz,YA,YB,YC,YD,YE,YF,YG,YH,YI,YJ,YK,YL,YM,YN,YO,YP,YQ,YR,YS,YT, t2, n2', hal']))
      rw [q1, q2]
      (repeat (first | simp (disch := omega) only [wrap64, wrapU32, wrapU64, wrapU8] | simp only [Ja,Jb,Jc,Jd,Je,Jf,Jg,Jh,Ji,Jj,Jk,Jl,Jm,Jn,Jo,Jp,Jq,Jr,Js,Jt,Ju,Jv,Jw,envA,lensOf,Jx,Jy,Jz,JA,JB,JC,JD,JE,JF,JG,JH,JI,JJ,JK,JL,JM,JN,JO,JP,JQ,JR,JS,JT,JU,JV,JW,↓reduceIte,if_true,reduceCtorEq,Nat.reduceEqDiff,JX,JY,JZ,J0,J1,J2,J3,J4,J5,J6,J7,Ya,Yb,Yc,Yd,Ye,Yf,Int.cast_ofNat_Int,Yg,Yh,Int.reduceLT,Int.reduceLE,Int.reduceEq,Int.reduceAdd,Int.reduceMul,Int.reduceSub,Int.reduceNeg,Yi,Yj,Yk,Yl,Ym,Yn,Yo,Yp,Yq,Yr,Ys,Yt,Yu,Yv,Yw,Yx,Yy,Yz,YA,YB,YC,YD,YE,YF,YG,YH,YI,YJ,YK,YL,YM,YN,YO,YP,YQ,YR,YS,YT, hl0', q3, d7, q4, q5, q7, get_LN hm, nz, q6, p1]))
      simp only [Ja,Jb,Jc,Jd,Je,Jf,Jg,Jh,Ji,Jj,Jk,Jl,Jm,Jn,Jo,Jp,Jq,Jr,Js,Jt,Ju,Jv,Jw,envA,lensOf,Jx,Jy,Jz,JA,JB,JC,JD,JE,JF,JG,JH,JI,JJ,JK,JL,JM,JN,JO,JP,JQ,JR,JS,JT,JU,JV,JW,↓reduceIte,if_true,reduceCtorEq,Nat.reduceEqDiff,JX,JY,JZ,J0,J1,J2,J3,J4,J5,J6,J7,Ya,Yb,Yc,Yd,Ye,Yf,Int.cast_ofNat_Int,Yg,Yh,Int.reduceLT,Int.reduceLE,Int.reduceEq,Int.reduceAdd,Int.reduceMul,Int.reduceSub,Int.reduceNeg,Yi,Yj,Yk,Yl,Ym,Yn,Yo,Yp,Yq,Yr,Ys,Yt,Yu,Yv,Yw,Yx,Yy,Yz,YA,YB,YC,YD,YE,YF,YG,YH,YI,YJ,YK,YL,YM,YN,YO,YP,YQ,YR,YS,YT, md]
    · have hl0' : ¬ (0 : Int) < cs.length := by omega
      have q4 : (0 : Int).tmod (n : Int) = 0 := by simp
      refine ⟨0, a + 1, s', ?_, by omega, by omega, by omega, hs'⟩
      refine EvF.w (fe := e2) (t := t2) rfl rfl ?_
      rw [show envA e2.sig [LN cs, .i (a : Int), .i (s : Int), .i (n : Int)] = [LN cs, .i (a : Int), .i (s : Int), .i (n : Int)] from rfl]
      (repeat (first | simp (disch := omega) only [wrap64, wrapU32, wrapU64, wrapU8] | simp only [Ja,Jb,Jc,Jd,Je,Jf,Jg,Jh,Ji,Jj,Jk,Jl,Jm,Jn,Jo,Jp,Jq,Jr,Js,Jt,Ju,Jv,Jw,envA,lensOf,Jx,Jy,Jz,JA,JB,JC,JD,JE,JF,JG,JH,JI,JJ,JK,JL,JM,JN,JO,JP,JQ,JR,JS,JT,JU,JV,JW,↓reduceIte,if_true,reduceCtorEq,Nat.reduceEqDiff,JX,JY,JZ,J0,J1,J2,J3,J4,J5,J6,J7,Ya,Yb,Yc,Yd,Ye,Yf,Int.cast_ofNat_Int,Yg,Yh,Int.reduceLT,Int.reduceLE,Int.reduceEq,Int.reduceAdd,Int.reduceMul,Int.reduceSub,Int.reduceNeg,Yi,Yj,Yk,Yl,Ym,Yn,Yo,Yp,Yq,Yr,Ys,Yt,Yu,Yv,Yw,Yx,Yy,Yz,YA,YB,YC,YD,YE,YF,YG,YH,YI,YJ,YK,YL,YM,YN,YO,YP,YQ,YR,YS,YT, t2, n2', hal']))
      rw [q1, q2]
      (repeat (first | simp (disch := omega) only [wrap64, wrapU32, wrapU64, wrapU8] | simp only [Ja,Jb,Jc,Jd,Je,Jf,Jg,Jh,Ji,Jj,Jk,Jl,Jm,Jn,Jo,Jp,Jq,Jr,Js,Jt,Ju,Jv,Jw,envA,lensOf,Jx,Jy,Jz,JA,JB,JC,JD,JE,JF,JG,JH,JI,JJ,JK,JL,JM,JN,JO,JP,JQ,JR,JS,JT,JU,JV,JW,↓reduceIte,if_true,reduceCtorEq,Nat.reduceEqDiff,JX,JY,JZ,J0,J1,J2,J3,J4,J5,J6,J7,Ya,Yb,Yc,Yd,Ye,Yf,Int.cast_ofNat_Int,Yg,Yh,Int.reduceLT,Int.reduceLE,Int.reduceEq,Int.reduceAdd,Int.reduceMul,Int.reduceSub,Int.reduceNeg,Yi,Yj,Yk,Yl,Ym,Yn,Yo,Yp,Yq,Yr,Ys,Yt,Yu,Yv,Yw,Yx,Yy,Yz,YA,YB,YC,YD,YE,YF,YG,YH,YI,YJ,YK,YL,YM,YN,YO,YP,YQ,YR,YS,YT, hl0', q3, nz, q4, p1]))
end Go.Proofs.Ytbacblphkppigaa.Audit

/- Classes and chunks of a size. -/
namespace Go.Proofs.Ytbacblphkppigaa.Audit
open Go.BH
attribute [local simp] envA lensOf
def rng (n : Int) : Prop := -9223372036854775808 ≤ n ∧ n < 9223372036854775808
def cls (n : Int) : Int := if n < 1 ∨ 16 < n then -1 else if n ≤ 1 then 0 else if n ≤ 2 then 1 else if n ≤ 4 then 2 else if n ≤ 8 then 3 else 4
def chk (n : Int) : Int := if n ≤ 16 ∨ 256 < n then 0 else (n + 15) / 16
theorem cls_cases (n : Int) : (n < 1 ∨ 16 < n) ∨ n = 1 ∨ n = 2 ∨ n = 3 ∨ n = 4 ∨ n = 5 ∨ n = 6 ∨ n = 7 ∨ n = 8 ∨ n = 9 ∨ n = 10 ∨ n = 11 ∨ n = 12 ∨ n = 13 ∨ n = 14 ∨ n = 15 ∨ n = 16 := by omega
theorem f18 (c : Int) (h : c = 0 ∨ c = 1 ∨ c = 2 ∨ c = 3 ∨ c = 4) : EvF fes 18 [.i c] [.i (2 ^ c.toNat)] := by
  rcases h with rfl | rfl | rfl | rfl | rfl <;> exact EvF.at 20 (by kernel_rfl)
theorem f26z (c : Int) (h : c = 0 ∨ c = 1 ∨ c = 2 ∨ c = 3 ∨ c = 4) : EvF fes 26 [.i c] [.i (2 ^ c.toNat)] := by
  rcases h with rfl | rfl | rfl | rfl | rfl <;> exact EvF.at 20 (by kernel_rfl)
theorem f79z (c : Int) (h : c = 0 ∨ c = 1 ∨ c = 2 ∨ c = 3 ∨ c = 4) : EvF fes 79 [.i c] [.i (2 ^ c.toNat)] := by
  rcases h with rfl | rfl | rfl | rfl | rfl <;> exact EvF.at 20 (by kernel_rfl)
theorem f19 (n : Int) : EvF fes 19 [.i n] [.i (cls n)] := by
  rcases cls_cases n with h | h | h | h | h | h | h | h | h | h | h | h | h | h | h | h | h
  · refine EvF.w (fe := e19) (t := t19) rfl rfl ?_
    have p0 := f18 0 (by simp)
    have p1 := f18 1 (by simp)
    have p2 := f18 2 (by simp)
    have p3 := f18 3 (by simp)
    have p4 := f18 4 (by simp)
    simp at p0 p1 p2 p3 p4
    by_cases h1 : 1 ≤ n
    · have g0 : ¬ n ≤ 1 := by omega
      have g1 : ¬ n ≤ 2 := by omega
      have g2 : ¬ n ≤ 4 := by omega
      have g3 : ¬ n ≤ 8 := by omega
      have g4 : ¬ n ≤ 16 := by omega
      simp [t19, e19]
      refine LW.go ?_
      simp [h1]
      refine CW.mk p0 ?_
      simp [g0, wrap64]
      refine LW.go ?_
      simp [h1]
      refine CW.mk p1 ?_
      simp [g1, wrap64]
      refine LW.go ?_
      simp [h1]
      refine CW.mk p2 ?_
      simp [g2, wrap64]
      refine LW.go ?_
      simp [h1]
      refine CW.mk p3 ?_
      simp [g3, wrap64]
      refine LW.go ?_
      simp [h1]
      refine CW.mk p4 ?_
      simp [g4, wrap64]
      refine LW.go ?_
      simp [h1, cls]
      try omega
    · simp [t19, e19]
      refine LW.go ?_
      simp [h1, cls]
      try omega
  all_goals
    subst h
    exact EvF.at 20 (by kernel_rfl)
theorem f16 (n : Int) (h : rng n) : EvF fes 16 [.i n] [.i (chk n)] := by
  refine EvF.w (fe := e16) (t := t16) rfl rfl ?_
  unfold rng at h
  simp [t16, e16]
  by_cases h1 : n ≤ 16
  · simp [h1, chk]
  · by_cases h2 : 256 < n
    · simp [h1, h2, chk]
    · simp only [h1, h2, chk, if_false, or_self]
      rw [wrap64 (x := n + 16) (by omega), wrap64 (x := n + 16 - 1) (by omega), Int.tdiv_eq_ediv_of_nonneg (by omega), wrap64 (by omega)]
      omega
end Go.Proofs.Ytbacblphkppigaa.Audit

/- laws.pick: what it draws. -/
namespace Go.Proofs.Ytbacblphkppigaa.Audit
open Go.BH
set_option maxRecDepth 100000
theorem f0 (cs : List Nat) : EvF fes 0 [LN cs] [.b (decide ((1048576 : Int) < cs.length))] := by
  refine EvF.w (fe := e0) (t := t0) rfl rfl ?_
  rw [show envA e0.sig [LN cs] = [LN cs] from rfl]
  simp only [Ja,Jb,Jc,Jd,Je,Jf,Jg,Jh,Ji,Jj,Jk,Jl,Jm,Jn,Jo,Jp,Jq,Jr,Js,Jt,Ju,Jv,Jw,envA,lensOf,Jx,Jy,Jz,JA,JB,JC,JD,JE,JF,JG,JH,JI,JJ,JK,JL,JM,JN,JO,JP,JQ,JR,JS,JT,JU,JV,JW,↓reduceIte,if_true,reduceCtorEq,Nat.reduceEqDiff,JX,JY,JZ,J0,J1,J2,J3,J4,J5,J6,J7,Ya,Yb,Yc,Yd,Ye,Yf,Int.cast_ofNat_Int,Yg,Yh,Int.reduceLT,Int.reduceLE,Int.reduceEq,Int.reduceAdd,Int.reduceMul,Int.reduceSub,Int.reduceNeg,Yi,Yj,Yk,Yl,Ym,Yn,Yo,Yp,Yq,Yr,Ys,Yt,Yu,Yv,Yw,Yx,Yy,Yz,YA,YB,YC,YD,YE,YF,YG,YH,YI,YJ,YK,YL,YM,YN,YO,YP,YQ,YR,YS,YT, t0]
theorem pickA {cs : List Nat} (hc : Code cs) (p n : Nat) (hp : p < 1000000000000) (hn : 0 < n) (hn' : n < 1000000000000) : ∃ x : Nat, EvF fes 86 [LN cs, .i p, .i n] [.i x] ∧ x < n := by
  have hl := hc.len
  by_cases h0 : cs.length = 0
  · refine ⟨0, ?_, hn⟩
    have h0' : (cs.length : Int) = 0 := by omega
    refine EvF.w (fe := e86) (t := t86) rfl rfl ?_
    rw [show envA e86.sig [LN cs, .i (p : Int), .i (n : Int)] = [LN cs, .i (p : Int), .i (n : Int)] from rfl]
    simp only [Ja,Jb,Jc,Jd,Je,Jf,Jg,Jh,Ji,Jj,Jk,Jl,Jm,Jn,Jo,Jp,Jq,Jr,Js,Jt,Ju,Jv,Jw,envA,lensOf,Jx,Jy,Jz,JA,JB,JC,JD,JE,JF,JG,JH,JI,JJ,JK,JL,JM,JN,JO,JP,JQ,JR,JS,JT,JU,JV,JW,↓reduceIte,if_true,reduceCtorEq,Nat.reduceEqDiff,JX,JY,JZ,J0,J1,J2,J3,J4,J5,J6,J7,Ya,Yb,Yc,Yd,Ye,Yf,Int.cast_ofNat_Int,Yg,Yh,Int.reduceLT,Int.reduceLE,Int.reduceEq,Int.reduceAdd,Int.reduceMul,Int.reduceSub,Int.reduceNeg,Yi,Yj,Yk,Yl,Ym,Yn,Yo,Yp,Yq,Yr,Ys,Yt,Yu,Yv,Yw,Yx,Yy,Yz,YA,YB,YC,YD,YE,YF,YG,YH,YI,YJ,YK,YL,YM,YN,YO,YP,YQ,YR,YS,YT, t86, h0']
  have h0' : ¬ (cs.length : Int) = 0 := by omega
  by_cases n2 : n < 2
  · refine ⟨0, ?_, hn⟩
    have n2' : (n : Int) < 2 := by omega
    refine EvF.w (fe := e86) (t := t86) rfl rfl ?_
    rw [show envA e86.sig [LN cs, .i (p : Int), .i (n : Int)] = [LN cs, .i (p : Int), .i (n : Int)] from rfl]
    simp only [Ja,Jb,Jc,Jd,Je,Jf,Jg,Jh,Ji,Jj,Jk,Jl,Jm,Jn,Jo,Jp,Jq,Jr,Js,Jt,Ju,Jv,Jw,envA,lensOf,Jx,Jy,Jz,JA,JB,JC,JD,JE,JF,JG,JH,JI,JJ,JK,JL,JM,JN,JO,JP,JQ,JR,JS,JT,JU,JV,JW,↓reduceIte,if_true,reduceCtorEq,Nat.reduceEqDiff,JX,JY,JZ,J0,J1,J2,J3,J4,J5,J6,J7,Ya,Yb,Yc,Yd,Ye,Yf,Int.cast_ofNat_Int,Yg,Yh,Int.reduceLT,Int.reduceLE,Int.reduceEq,Int.reduceAdd,Int.reduceMul,Int.reduceSub,Int.reduceNeg,Yi,Yj,Yk,Yl,Ym,Yn,Yo,Yp,Yq,Yr,Ys,Yt,Yu,Yv,Yw,Yx,Yy,Yz,YA,YB,YC,YD,YE,YF,YG,YH,YI,YJ,YK,YL,YM,YN,YO,YP,YQ,YR,YS,YT, t86, h0', n2']
  have n2' : ¬ (n : Int) < 2 := by omega
  obtain ⟨e, us, h1, h2⟩ : ∃ e us, Ev fes t86 (envA e86.sig [LN cs, .i (p : Int), .i (n : Int)]) (e, us) ∧ (e = 1 ∧ ∃ x : Nat, us = [.i x] ∧ x < n) := by
    refine W.ev ?_
    rw [show envA e86.sig [LN cs, .i (p : Int), .i (n : Int)] = [LN cs, .i (p : Int), .i (n : Int)] from rfl]
    simp only [Ja,Jb,Jc,Jd,Je,Jf,Jg,Jh,Ji,Jj,Jk,Jl,Jm,Jn,Jo,Jp,Jq,Jr,Js,Jt,Ju,Jv,Jw,envA,lensOf,Jx,Jy,Jz,JA,JB,JC,JD,JE,JF,JG,JH,JI,JJ,JK,JL,JM,JN,JO,JP,JQ,JR,JS,JT,JU,JV,JW,↓reduceIte,if_true,reduceCtorEq,Nat.reduceEqDiff,JX,JY,JZ,J0,J1,J2,J3,J4,J5,J6,J7,Ya,Yb,Yc,Yd,Ye,Yf,Int.cast_ofNat_Int,Yg,Yh,Int.reduceLT,Int.reduceLE,Int.reduceEq,Int.reduceAdd,Int.reduceMul,Int.reduceSub,Int.reduceNeg,Yi,Yj,Yk,Yl,Ym,Yn,Yo,Yp,Yq,Yr,Ys,Yt,Yu,Yv,Yw,Yx,Yy,Yz,YA,YB,YC,YD,YE,YF,YG,YH,YI,YJ,YK,YL,YM,YN,YO,YP,YQ,YR,YS,YT, t86, h0', n2']
    refine LW.inv (α := Nat × Nat) (fun st => st.2 ≤ 3 ∧ st.1 ≤ 255 * 32 ^ st.2) (fun st => [.i st.1, .i st.2]) (fun st => 3 - st.2) (fun ⟨x, k⟩ ⟨hk, hx⟩ => ?_) (a := (0, 0)) ⟨by simp, by simp⟩ (by simp)
    simp only at hk hx
    have hb : x ≤ 255 * 32 ^ 3 := Nat.le_trans hx (Nat.mul_le_mul_left _ (Nat.pow_le_pow_right (by omega) hk))
    by_cases k3 : k < 3
    · have k3' : (k : Int) < 3 := by omega
      have hm : (p + k) % cs.length < cs.length := Nat.mod_lt _ (by omega)
      have hbt := hc.byte _ (List.getElem_mem hm)
      have q1 : (p : Int) + (k : Int) = ((p + k : Nat) : Int) := by omega
      have q2 : ((p + k : Nat) : Int).tmod (cs.length : Int) = (((p + k) % cs.length : Nat) : Int) := rfl
      have q7 : (((p + k) % cs.length : Nat) : Int) < cs.length := by omega
      (repeat (first | simp (disch := omega) only [wrap64, wrapU32, wrapU64, wrapU8] | simp only [Ja,Jb,Jc,Jd,Je,Jf,Jg,Jh,Ji,Jj,Jk,Jl,Jm,Jn,Jo,Jp,Jq,Jr,Js,Jt,Ju,Jv,Jw,envA,lensOf,Jx,Jy,Jz,JA,JB,JC,JD,JE,JF,JG,JH,JI,JJ,JK,JL,JM,JN,JO,JP,JQ,JR,JS,JT,JU,JV,JW,↓reduceIte,if_true,reduceCtorEq,Nat.reduceEqDiff,JX,JY,JZ,J0,J1,J2,J3,J4,J5,J6,J7,Ya,Yb,Yc,Yd,Ye,Yf,Int.cast_ofNat_Int,Yg,Yh,Int.reduceLT,Int.reduceLE,Int.reduceEq,Int.reduceAdd,Int.reduceMul,Int.reduceSub,Int.reduceNeg,Yi,Yj,Yk,Yl,Ym,Yn,Yo,Yp,Yq,Yr,Ys,Yt,Yu,Yv,Yw,Yx,Yy,Yz,YA,YB,YC,YD,YE,YF,YG,YH,YI,YJ,YK,YL,YM,YN,YO,YP,YQ,YR,YS,YT, k3']))
      rw [q1]
      (repeat (first | simp (disch := omega) only [wrap64, wrapU32, wrapU64, wrapU8] | simp only [Ja,Jb,Jc,Jd,Je,Jf,Jg,Jh,Ji,Jj,Jk,Jl,Jm,Jn,Jo,Jp,Jq,Jr,Js,Jt,Ju,Jv,Jw,envA,lensOf,Jx,Jy,Jz,JA,JB,JC,JD,JE,JF,JG,JH,JI,JJ,JK,JL,JM,JN,JO,JP,JQ,JR,JS,JT,JU,JV,JW,↓reduceIte,if_true,reduceCtorEq,Nat.reduceEqDiff,JX,JY,JZ,J0,J1,J2,J3,J4,J5,J6,J7,Ya,Yb,Yc,Yd,Ye,Yf,Int.cast_ofNat_Int,Yg,Yh,Int.reduceLT,Int.reduceLE,Int.reduceEq,Int.reduceAdd,Int.reduceMul,Int.reduceSub,Int.reduceNeg,Yi,Yj,Yk,Yl,Ym,Yn,Yo,Yp,Yq,Yr,Ys,Yt,Yu,Yv,Yw,Yx,Yy,Yz,YA,YB,YC,YD,YE,YF,YG,YH,YI,YJ,YK,YL,YM,YN,YO,YP,YQ,YR,YS,YT, h0', q2, q7, get_LN hm]))
      refine ⟨(31 * x + cs[(p + k) % cs.length], k + 1), ⟨by simp; omega, ?_⟩, by simp; omega, by simp⟩
      simp only
      rw [Nat.pow_succ]
      have : 0 < 32 ^ k := Nat.pow_pos (by omega)
      omega
    · have k3' : ¬ (k : Int) < 3 := by omega
      have q1 : (x : Int) + p = ((x + p : Nat) : Int) := by omega
      have q2 : ((x + p : Nat) : Int).tmod (n : Int) = (((x + p) % n : Nat) : Int) := rfl
      have nz : ¬ (n : Int) = 0 := by omega
      (repeat (first | simp (disch := omega) only [wrap64, wrapU32, wrapU64, wrapU8] | simp only [Ja,Jb,Jc,Jd,Je,Jf,Jg,Jh,Ji,Jj,Jk,Jl,Jm,Jn,Jo,Jp,Jq,Jr,Js,Jt,Ju,Jv,Jw,envA,lensOf,Jx,Jy,Jz,JA,JB,JC,JD,JE,JF,JG,JH,JI,JJ,JK,JL,JM,JN,JO,JP,JQ,JR,JS,JT,JU,JV,JW,↓reduceIte,if_true,reduceCtorEq,Nat.reduceEqDiff,JX,JY,JZ,J0,J1,J2,J3,J4,J5,J6,J7,Ya,Yb,Yc,Yd,Ye,Yf,Int.cast_ofNat_Int,Yg,Yh,Int.reduceLT,Int.reduceLE,Int.reduceEq,Int.reduceAdd,Int.reduceMul,Int.reduceSub,Int.reduceNeg,Yi,Yj,Yk,Yl,Ym,Yn,Yo,Yp,Yq,Yr,Ys,Yt,Yu,Yv,Yw,Yx,Yy,Yz,YA,YB,YC,YD,YE,YF,YG,YH,YI,YJ,YK,YL,YM,YN,YO,YP,YQ,YR,YS,YT, k3']))
      rw [q1]
      (repeat (first | simp (disch := omega) only [wrap64, wrapU32, wrapU64, wrapU8] | simp only [Ja,Jb,Jc,Jd,Je,Jf,Jg,Jh,Ji,Jj,Jk,Jl,Jm,Jn,Jo,Jp,Jq,Jr,Js,Jt,Ju,Jv,Jw,envA,lensOf,Jx,Jy,Jz,JA,JB,JC,JD,JE,JF,JG,JH,JI,JJ,JK,JL,JM,JN,JO,JP,JQ,JR,JS,JT,JU,JV,JW,↓reduceIte,if_true,reduceCtorEq,Nat.reduceEqDiff,JX,JY,JZ,J0,J1,J2,J3,J4,J5,J6,J7,Ya,Yb,Yc,Yd,Ye,Yf,Int.cast_ofNat_Int,Yg,Yh,Int.reduceLT,Int.reduceLE,Int.reduceEq,Int.reduceAdd,Int.reduceMul,Int.reduceSub,Int.reduceNeg,Yi,Yj,Yk,Yl,Ym,Yn,Yo,Yp,Yq,Yr,Ys,Yt,Yu,Yv,Yw,Yx,Yy,Yz,YA,YB,YC,YD,YE,YF,YG,YH,YI,YJ,YK,YL,YM,YN,YO,YP,YQ,YR,YS,YT, nz, q2]))
      exact ⟨_, rfl, Nat.mod_lt _ hn⟩
  obtain ⟨rfl, x, rfl, h3⟩ := h2
  exact ⟨x, EvF.mk (fe := e86) rfl rfl h1, h3⟩
end Go.Proofs.Ytbacblphkppigaa.Audit

/- Scatter: both sides reckon the same. -/
namespace Go.Proofs.Ytbacblphkppigaa.Audit
open Go.BH
attribute [local simp] envA lensOf
def tab8 : ByteArray := ⟨#[0, 1, 1, 2, 1, 2, 2, 3, 1, 2, 2, 3, 2, 3, 3, 4, 1, 2, 2, 3, 2, 3, 3, 4, 2, 3, 3, 4, 3, 4, 4, 5, 1, 2, 2, 3, 2, 3, 3, 4, 2, 3, 3, 4, 3, 4, 4, 5, 2, 3, 3, 4, 3, 4, 4, 5, 3, 4, 4, 5, 4, 5, 5, 6, 1, 2, 2, 3, 2, 3, 3, 4, 2, 3, 3, 4, 3, 4, 4, 5, 2, 3, 3, 4, 3, 4, 4, 5, 3, 4, 4, 5, 4, 5, 5, 6, 2, 3, 3, 4, 3, 4, 4, 5, 3, 4, 4, 5, 4, 5, 5, 6, 3, 4, 4, 5, 4, 5, 5, 6, 4, 5, 5, 6, 5, 6, 6, 7, 1, 2, 2, 3, 2, 3, 3, 4, 2, 3, 3, 4, 3, 4, 4, 5, 2, 3, 3, 4, 3, 4, 4, 5, 3, 4, 4, 5, 4, 5, 5, 6, 2, 3, 3, 4, 3, 4, 4, 5, 3, 4, 4, 5, 4, 5, 5, 6, 3, 4, 4, 5, 4, 5, 5, 6, 4, 5, 5, 6, 5, 6, 6, 7, 2, 3, 3, 4, 3, 4, 4, 5, 3, 4, 4, 5, 4, 5, 5, 6, 3, 4, 4, 5, 4, 5, 5, 6, 4, 5, 5, 6, 5, 6, 6, 7, 3, 4, 4, 5, 4, 5, 5, 6, 4, 5, 5, 6, 5, 6, 6, 7, 4, 5, 5, 6, 5, 6, 6, 7, 5, 6, 6, 7, 6, 7, 7, 8]⟩
def T35 (s : ByteArray) : Tr :=
(.nd (.pr (.sh .shr .u32 .u64) [(.v 0), (.k (.i 24))])
(.nd (.pr (.idxS .u32) [(.k (.s s)), (.v 1)])
(.nd (.pr (.sh .shr .u32 .u64) [(.v 0), (.k (.i 16))])
(.nd (.pr (.bin .and .u32) [(.v 3), (.k (.i 255))])
(.nd (.pr (.idxS .u32) [(.k (.s s)), (.v 4)])
(.nd (.pr (.bin .add .u8) [(.v 2), (.v 5)])
(.nd (.pr (.sh .shr .u32 .u64) [(.v 0), (.k (.i 8))])
(.nd (.pr (.bin .and .u32) [(.v 7), (.k (.i 255))])
(.nd (.pr (.idxS .u32) [(.k (.s s)), (.v 8)])
(.nd (.pr (.bin .add .u8) [(.v 6), (.v 9)])
(.nd (.pr (.bin .and .u32) [(.v 0), (.k (.i 255))])
(.nd (.pr (.idxS .u32) [(.k (.s s)), (.v 11)])
(.nd (.pr (.bin .add .u8) [(.v 10), (.v 12)])
(.nd (.pr (.conv .u8 .i64) [(.v 13)])
(.out 1 [(.v 14)])))))))))))))))
/-- How many of the first i bits are set. -/
def pc (m i : Nat) : Nat := (ons m i).length
theorem pc_succ (m i : Nat) : pc m (i + 1) = pc m i + m / 2 ^ i % 2 := by
  unfold pc
  rw [ons_succ]
  by_cases h : m / 2 ^ i % 2 = 1
  · rw [if_pos h]
    simp
    omega
  · rw [if_neg h]
    omega
theorem pc_zero (m : Nat) : pc m 0 = 0 := rfl
theorem pc_le (m i : Nat) : pc m i ≤ i := ons_len m i
def tabOkB (s : ByteArray) : Bool := (List.range 256).all fun b => match (Pr.idxS .u32).eval [.s s, .i (b : Int)] with
  | some (.i n) => decide (n = (pc b 8 : Int))
  | _ => false
theorem tab8_okB : tabOkB tab8 = true := by kernel_rfl
theorem tab8_ok (b : Nat) (h : b < 256) : (Pr.idxS .u32).eval [.s tab8, .i (b : Int)] = some (.i (pc b 8 : Int)) := by
  have := List.all_eq_true.1 tab8_okB b (by simpa using h)
  split at this
  · rename_i n hn
    rw [hn, of_decide_eq_true this]
  · cases this
theorem pc_low (m : Nat) : ∀ i, i ≤ 8 → pc (m % 256) i = pc m i
  | 0, _ => rfl
  | i + 1, h => by
    rw [pc_succ, pc_succ, pc_low m i (by omega)]
    congr 1
    have : i = 0 ∨ i = 1 ∨ i = 2 ∨ i = 3 ∨ i = 4 ∨ i = 5 ∨ i = 6 ∨ i = 7 := by omega
    rcases this with rfl | rfl | rfl | rfl | rfl | rfl | rfl | rfl <;> omega
theorem pc_high (m : Nat) : ∀ i, pc m (8 + i) = pc m 8 + pc (m / 256) i
  | 0 => by rw [pc_zero]; rfl
  | i + 1 => by
    rw [← Nat.add_assoc, pc_succ m (8 + i), pc_high m i, pc_succ (m / 256) i, Nat.div_div_eq_div_mul, Nat.pow_add, show (2 : Nat) ^ 8 = 256 from rfl]
    omega
theorem pc_end (m n : Nat) (h : m < 2 ^ n) : ∀ i, pc m (n + i) = pc m n
  | 0 => rfl
  | i + 1 => by
    rw [← Nat.add_assoc, pc_succ, pc_end m n h i]
    have : m / 2 ^ (n + i) = 0 := Nat.div_eq_of_lt (Nat.lt_of_lt_of_le h (Nat.pow_le_pow_right (by omega) (by omega)))
    rw [this]
    rfl
theorem pc_two (m : Nat) (h : m < 65536) : pc m 32 = pc (m / 256) 8 + pc (m % 256) 8 := by
  have h1 := pc_end m 16 h 16
  have h2 := pc_high m 8
  rw [pc_low m 8 (by omega)]
  rw [show (16 : Nat) + 16 = 32 from rfl] at h1
  rw [show (8 : Nat) + 8 = 16 from rfl] at h2
  omega
theorem f24 (m : Nat) (h : m < 4294967296) : EvF fes 24 [.i m] [.i (pc m 32 : Nat)] := by
  refine EvF.w (fe := e24) (t := t24) rfl rfl ?_
  simp [t24, e24]
  refine CW.mk (f11 m h) ?_
  simp [LN, pc]
theorem f26 (c : Nat) (h : c < 5) : EvF fes 26 [.i c] [.i ((2 ^ c : Nat) : Int)] := by
  have : c = 0 ∨ c = 1 ∨ c = 2 ∨ c = 3 ∨ c = 4 := by omega
  rcases this with rfl | rfl | rfl | rfl | rfl <;> exact EvF.at 20 (by kernel_rfl)
/-- Words taken in a page. -/
def tw (w : Nat) : Nat := if okw w = true then (if kd w = 1 then pc (mk' w) 32 * 2 ^ cl w else if kd w = 2 then 16 else 0) else 0
theorem okw_cl {w : Nat} (h : okw w = true) (hk : kd w = 1) : cl w < 5 := by
  unfold okw okc at h
  rw [if_neg (by omega), if_pos hk] at h
  simp only [Bool.and_eq_true, decide_eq_true_eq] at h
  exact h.1.1.1
theorem tw_le (w : Nat) : tw w ≤ 512 := by
  unfold tw
  split
  · rename_i h
    split
    · rename_i hk
      have h1 := pc_le (mk' w) 32
      have h2 : 2 ^ cl w ≤ 2 ^ 4 := Nat.pow_le_pow_right (by omega) (by have := okw_cl h hk; omega)
      exact Nat.mul_le_mul h1 h2
    · split <;> omega
  · omega
/-- Words in pages, and those taken. -/
theorem okm_all' {xs : List Nat} (h : okm xs = true) : xs.length ≤ 16 ∧ ∀ w ∈ xs, okw w = true := by
  simp only [okm, Bool.and_eq_true, decide_eq_true_eq, List.all_eq_true] at h
  exact h
end Go.Proofs.Ytbacblphkppigaa.Audit

/- Events: when they are valid, and their bytes: what both sides reckon. -/
namespace Go.Proofs.Ytbacblphkppigaa.Audit
open Go.BH
set_option maxRecDepth 100000
def inTake (v : Int) : Bool := decide (0 ≤ v) && decide (v ≤ 256)
def inGive (v : Int) : Bool := decide (-1 ≤ v) && decide (v ≤ 4095)
/-- A request is valid. -/
def reqOk (k : Int) (vs : List Int) : Bool := decide (vs.length = 8) && (if k = 1 then vs.all inTake else if k = 2 then vs.all inGive else false)
theorem f14 (k : Int) (vs : List Int) (hl : vs.length < 9223372036854775808) : EvF fes 14 [.i k, LI vs] [.b (reqOk k vs)] := by
  refine EvF.w (fe := e14) (t := t14) rfl rfl ?_
  unfold reqOk
  by_cases h8 : vs.length = 8
  rotate_left
  · have h8' : ¬ (vs.length : Int) = 8 := by omega
    simp only [Ja,Jb,Jc,Jd,Je,Jf,Jg,Jh,Ji,Jj,Jk,Jl,Jm,Jn,Jo,Jp,Jq,Jr,Js,Jt,Ju,Jv,Jw,envA,lensOf,Jx,Jy,Jz,JA,JB,JC,JD,JE,JF,JG,JH,JI,JJ,JK,JL,JM,JN,JO,JP,JQ,JR,JS,JT,JU,JV,JW,↓reduceIte,if_true,reduceCtorEq,Nat.reduceEqDiff,JX,JY,JZ,J0,J1,J2,J3,J4,J5,J6,J7,Ya,Yb,Yc,Yd,Ye,Yf,Int.cast_ofNat_Int,Yg,Yh,Int.reduceLT,Int.reduceLE,Int.reduceEq,Int.reduceAdd,Int.reduceMul,Int.reduceSub,Int.reduceNeg,Yi,Yj,Yk,Yl,Ym,Yn,Yo,Yp,Yq,Yr,Ys,Yt,Yu,Yv,Yw,Yx,Yy,Yz,YA,YB,YC,YD,YE,YF,YG,YH,YI,YJ,YK,YL,YM,YN,YO,YP,YQ,YR,YS,YT, t14, e14, h8', h8]
  have h8' : (vs.length : Int) = 8 := by omega
  rw [decide_eq_true h8]
  by_cases k1 : k = 1
  · subst k1
    simp only [Ja,Jb,Jc,Jd,Je,Jf,Jg,Jh,Ji,Jj,Jk,Jl,Jm,Jn,Jo,Jp,Jq,Jr,Js,Jt,Ju,Jv,Jw,envA,lensOf,Jx,Jy,Jz,JA,JB,JC,JD,JE,JF,JG,JH,JI,JJ,JK,JL,JM,JN,JO,JP,JQ,JR,JS,JT,JU,JV,JW,↓reduceIte,if_true,reduceCtorEq,Nat.reduceEqDiff,JX,JY,JZ,J0,J1,J2,J3,J4,J5,J6,J7,Ya,Yb,Yc,Yd,Ye,Yf,Int.cast_ofNat_Int,Yg,Yh,Int.reduceLT,Int.reduceLE,Int.reduceEq,Int.reduceAdd,Int.reduceMul,Int.reduceSub,Int.reduceNeg,Yi,Yj,Yk,Yl,Ym,Yn,Yo,Yp,Yq,Yr,Ys,Yt,Yu,Yv,Yw,Yx,Yy,Yz,YA,YB,YC,YD,YE,YF,YG,YH,YI,YJ,YK,YL,YM,YN,YO,YP,YQ,YR,YS,YT, t14, e14, h8']
    have hle := good_le (q := inTake) (xs := vs)
    refine LW.cnt (good inTake vs) (fun j => [.i j]) (fun j hj => ?_) ?_ (by simp)
    · have hlj : j < vs.length := by omega
      have h2 : (j : Int) < 8 := by omega
      have hq := good_lt hj hlj
      have a1 : ¬ vs[j] < 0 := by unfold inTake at hq; simp at hq; omega
      have a2 : ¬ 256 < vs[j] := by unfold inTake at hq; simp at hq; omega
      (repeat (first | simp (disch := omega) only [wrap64, wrapU32, wrapU64, wrapU8] | simp only [Ja,Jb,Jc,Jd,Je,Jf,Jg,Jh,Ji,Jj,Jk,Jl,Jm,Jn,Jo,Jp,Jq,Jr,Js,Jt,Ju,Jv,Jw,envA,lensOf,Jx,Jy,Jz,JA,JB,JC,JD,JE,JF,JG,JH,JI,JJ,JK,JL,JM,JN,JO,JP,JQ,JR,JS,JT,JU,JV,JW,↓reduceIte,if_true,reduceCtorEq,Nat.reduceEqDiff,JX,JY,JZ,J0,J1,J2,J3,J4,J5,J6,J7,Ya,Yb,Yc,Yd,Ye,Yf,Int.cast_ofNat_Int,Yg,Yh,Int.reduceLT,Int.reduceLE,Int.reduceEq,Int.reduceAdd,Int.reduceMul,Int.reduceSub,Int.reduceNeg,Yi,Yj,Yk,Yl,Ym,Yn,Yo,Yp,Yq,Yr,Ys,Yt,Yu,Yv,Yw,Yx,Yy,Yz,YA,YB,YC,YD,YE,YF,YG,YH,YI,YJ,YK,YL,YM,YN,YO,YP,YQ,YR,YS,YT, h8', h2, get_LI hlj, a1, a2]))
      rfl
    · rw [good_all]
      by_cases hg : good inTake vs = vs.length
      · have h2 : ¬ ((good inTake vs : Nat) : Int) < 8 := by omega
        (repeat (first | simp (disch := omega) only [wrap64, wrapU32, wrapU64, wrapU8] | simp only [Ja,Jb,Jc,Jd,Je,Jf,Jg,Jh,Ji,Jj,Jk,Jl,Jm,Jn,Jo,Jp,Jq,Jr,Js,Jt,Ju,Jv,Jw,envA,lensOf,Jx,Jy,Jz,JA,JB,JC,JD,JE,JF,JG,JH,JI,JJ,JK,JL,JM,JN,JO,JP,JQ,JR,JS,JT,JU,JV,JW,↓reduceIte,if_true,reduceCtorEq,Nat.reduceEqDiff,JX,JY,JZ,J0,J1,J2,J3,J4,J5,J6,J7,Ya,Yb,Yc,Yd,Ye,Yf,Int.cast_ofNat_Int,Yg,Yh,Int.reduceLT,Int.reduceLE,Int.reduceEq,Int.reduceAdd,Int.reduceMul,Int.reduceSub,Int.reduceNeg,Yi,Yj,Yk,Yl,Ym,Yn,Yo,Yp,Yq,Yr,Ys,Yt,Yu,Yv,Yw,Yx,Yy,Yz,YA,YB,YC,YD,YE,YF,YG,YH,YI,YJ,YK,YL,YM,YN,YO,YP,YQ,YR,YS,YT, h8', h2, hg]))
      · have hlj : good inTake vs < vs.length := by omega
        have h2 : ((good inTake vs : Nat) : Int) < 8 := by omega
        have hq := good_at hlj
        (repeat (first | simp (disch := omega) only [wrap64, wrapU32, wrapU64, wrapU8] | simp only [Ja,Jb,Jc,Jd,Je,Jf,Jg,Jh,Ji,Jj,Jk,Jl,Jm,Jn,Jo,Jp,Jq,Jr,Js,Jt,Ju,Jv,Jw,envA,lensOf,Jx,Jy,Jz,JA,JB,JC,JD,JE,JF,JG,JH,JI,JJ,JK,JL,JM,JN,JO,JP,JQ,JR,JS,JT,JU,JV,JW,↓reduceIte,if_true,reduceCtorEq,Nat.reduceEqDiff,JX,JY,JZ,J0,J1,J2,J3,J4,J5,J6,J7,Ya,Yb,Yc,Yd,Ye,Yf,Int.cast_ofNat_Int,Yg,Yh,Int.reduceLT,Int.reduceLE,Int.reduceEq,Int.reduceAdd,Int.reduceMul,Int.reduceSub,Int.reduceNeg,Yi,Yj,Yk,Yl,Ym,Yn,Yo,Yp,Yq,Yr,Ys,Yt,Yu,Yv,Yw,Yx,Yy,Yz,YA,YB,YC,YD,YE,YF,YG,YH,YI,YJ,YK,YL,YM,YN,YO,YP,YQ,YR,YS,YT, h8', h2, get_LI hlj, hg]))
        by_cases a1 : vs[good inTake vs] < 0
        · (repeat (first | simp (disch := omega) only [wrap64, wrapU32, wrapU64, wrapU8] | simp only [Ja,Jb,Jc,Jd,Je,Jf,Jg,Jh,Ji,Jj,Jk,Jl,Jm,Jn,Jo,Jp,Jq,Jr,Js,Jt,Ju,Jv,Jw,envA,lensOf,Jx,Jy,Jz,JA,JB,JC,JD,JE,JF,JG,JH,JI,JJ,JK,JL,JM,JN,JO,JP,JQ,JR,JS,JT,JU,JV,JW,↓reduceIte,if_true,reduceCtorEq,Nat.reduceEqDiff,JX,JY,JZ,J0,J1,J2,J3,J4,J5,J6,J7,Ya,Yb,Yc,Yd,Ye,Yf,Int.cast_ofNat_Int,Yg,Yh,Int.reduceLT,Int.reduceLE,Int.reduceEq,Int.reduceAdd,Int.reduceMul,Int.reduceSub,Int.reduceNeg,Yi,Yj,Yk,Yl,Ym,Yn,Yo,Yp,Yq,Yr,Ys,Yt,Yu,Yv,Yw,Yx,Yy,Yz,YA,YB,YC,YD,YE,YF,YG,YH,YI,YJ,YK,YL,YM,YN,YO,YP,YQ,YR,YS,YT, a1]))
        · have a2 : 256 < vs[good inTake vs] := by
            generalize vs[good inTake vs] = v at hq a1
            unfold inTake at hq
            simp at hq
            omega
          (repeat (first | simp (disch := omega) only [wrap64, wrapU32, wrapU64, wrapU8] | simp only [Ja,Jb,Jc,Jd,Je,Jf,Jg,Jh,Ji,Jj,Jk,Jl,Jm,Jn,Jo,Jp,Jq,Jr,Js,Jt,Ju,Jv,Jw,envA,lensOf,Jx,Jy,Jz,JA,JB,JC,JD,JE,JF,JG,JH,JI,JJ,JK,JL,JM,JN,JO,JP,JQ,JR,JS,JT,JU,JV,JW,↓reduceIte,if_true,reduceCtorEq,Nat.reduceEqDiff,JX,JY,JZ,J0,J1,J2,J3,J4,J5,J6,J7,Ya,Yb,Yc,Yd,Ye,Yf,Int.cast_ofNat_Int,Yg,Yh,Int.reduceLT,Int.reduceLE,Int.reduceEq,Int.reduceAdd,Int.reduceMul,Int.reduceSub,Int.reduceNeg,Yi,Yj,Yk,Yl,Ym,Yn,Yo,Yp,Yq,Yr,Ys,Yt,Yu,Yv,Yw,Yx,Yy,Yz,YA,YB,YC,YD,YE,YF,YG,YH,YI,YJ,YK,YL,YM,YN,YO,YP,YQ,YR,YS,YT, a1, a2]))
  by_cases k2 : k = 2
  · subst k2
    simp only [Ja,Jb,Jc,Jd,Je,Jf,Jg,Jh,Ji,Jj,Jk,Jl,Jm,Jn,Jo,Jp,Jq,Jr,Js,Jt,Ju,Jv,Jw,envA,lensOf,Jx,Jy,Jz,JA,JB,JC,JD,JE,JF,JG,JH,JI,JJ,JK,JL,JM,JN,JO,JP,JQ,JR,JS,JT,JU,JV,JW,↓reduceIte,if_true,reduceCtorEq,Nat.reduceEqDiff,JX,JY,JZ,J0,J1,J2,J3,J4,J5,J6,J7,Ya,Yb,Yc,Yd,Ye,Yf,Int.cast_ofNat_Int,Yg,Yh,Int.reduceLT,Int.reduceLE,Int.reduceEq,Int.reduceAdd,Int.reduceMul,Int.reduceSub,Int.reduceNeg,Yi,Yj,Yk,Yl,Ym,Yn,Yo,Yp,Yq,Yr,Ys,Yt,Yu,Yv,Yw,Yx,Yy,Yz,YA,YB,YC,YD,YE,YF,YG,YH,YI,YJ,YK,YL,YM,YN,YO,YP,YQ,YR,YS,YT, t14, e14, h8']
    have hle := good_le (q := inGive) (xs := vs)
    refine LW.cnt (good inGive vs) (fun j => [.i j]) (fun j hj => ?_) ?_ (by simp)
    · have hlj : j < vs.length := by omega
      have h2 : (j : Int) < 8 := by omega
      have hq := good_lt hj hlj
      have a1 : ¬ vs[j] < -1 := by unfold inGive at hq; simp at hq; omega
      have a2 : ¬ 4095 < vs[j] := by unfold inGive at hq; simp at hq; omega
      (repeat (first | simp (disch := omega) only [wrap64, wrapU32, wrapU64, wrapU8] | simp only [Ja,Jb,Jc,Jd,Je,Jf,Jg,Jh,Ji,Jj,Jk,Jl,Jm,Jn,Jo,Jp,Jq,Jr,Js,Jt,Ju,Jv,Jw,envA,lensOf,Jx,Jy,Jz,JA,JB,JC,JD,JE,JF,JG,JH,JI,JJ,JK,JL,JM,JN,JO,JP,JQ,JR,JS,JT,JU,JV,JW,↓reduceIte,if_true,reduceCtorEq,Nat.reduceEqDiff,JX,JY,JZ,J0,J1,J2,J3,J4,J5,J6,J7,Ya,Yb,Yc,Yd,Ye,Yf,Int.cast_ofNat_Int,Yg,Yh,Int.reduceLT,Int.reduceLE,Int.reduceEq,Int.reduceAdd,Int.reduceMul,Int.reduceSub,Int.reduceNeg,Yi,Yj,Yk,Yl,Ym,Yn,Yo,Yp,Yq,Yr,Ys,Yt,Yu,Yv,Yw,Yx,Yy,Yz,YA,YB,YC,YD,YE,YF,YG,YH,YI,YJ,YK,YL,YM,YN,YO,YP,YQ,YR,YS,YT, h8', h2, get_LI hlj, a1, a2]))
      rfl
    · rw [good_all]
      by_cases hg : good inGive vs = vs.length
      · have h2 : ¬ ((good inGive vs : Nat) : Int) < 8 := by omega
        (repeat (first | simp (disch := omega) only [wrap64, wrapU32, wrapU64, wrapU8] | simp only [Ja,Jb,Jc,Jd,Je,Jf,Jg,Jh,Ji,Jj,Jk,Jl,Jm,Jn,Jo,Jp,Jq,Jr,Js,Jt,Ju,Jv,Jw,envA,lensOf,Jx,Jy,Jz,JA,JB,JC,JD,JE,JF,JG,JH,JI,JJ,JK,JL,JM,JN,JO,JP,JQ,JR,JS,JT,JU,JV,JW,↓reduceIte,if_true,reduceCtorEq,Nat.reduceEqDiff,JX,JY,JZ,J0,J1,J2,J3,J4,J5,J6,J7,Ya,Yb,Yc,Yd,Ye,Yf,Int.cast_ofNat_Int,Yg,Yh,Int.reduceLT,Int.reduceLE,Int.reduceEq,Int.reduceAdd,Int.reduceMul,Int.reduceSub,Int.reduceNeg,Yi,Yj,Yk,Yl,Ym,Yn,Yo,Yp,Yq,Yr,Ys,Yt,Yu,Yv,Yw,Yx,Yy,Yz,YA,YB,YC,YD,YE,YF,YG,YH,YI,YJ,YK,YL,YM,YN,YO,YP,YQ,YR,YS,YT, h8', h2, hg]))
      · have hlj : good inGive vs < vs.length := by omega
        have h2 : ((good inGive vs : Nat) : Int) < 8 := by omega
        have hq := good_at hlj
        (repeat (first | simp (disch := omega) only [wrap64, wrapU32, wrapU64, wrapU8] | simp only [Ja,Jb,Jc,Jd,Je,Jf,Jg,Jh,Ji,Jj,Jk,Jl,Jm,Jn,Jo,Jp,Jq,Jr,Js,Jt,Ju,Jv,Jw,envA,lensOf,Jx,Jy,Jz,JA,JB,JC,JD,JE,JF,JG,JH,JI,JJ,JK,JL,JM,JN,JO,JP,JQ,JR,JS,JT,JU,JV,JW,↓reduceIte,if_true,reduceCtorEq,Nat.reduceEqDiff,JX,JY,JZ,J0,J1,J2,J3,J4,J5,J6,J7,Ya,Yb,Yc,Yd,Ye,Yf,Int.cast_ofNat_Int,Yg,Yh,Int.reduceLT,Int.reduceLE,Int.reduceEq,Int.reduceAdd,Int.reduceMul,Int.reduceSub,Int.reduceNeg,Yi,Yj,Yk,Yl,Ym,Yn,Yo,Yp,Yq,Yr,Ys,Yt,Yu,Yv,Yw,Yx,Yy,Yz,YA,YB,YC,YD,YE,YF,YG,YH,YI,YJ,YK,YL,YM,YN,YO,YP,YQ,YR,YS,YT, h8', h2, get_LI hlj, hg]))
        by_cases a1 : vs[good inGive vs] < -1
        · (repeat (first | simp (disch := omega) only [wrap64, wrapU32, wrapU64, wrapU8] | simp only [Ja,Jb,Jc,Jd,Je,Jf,Jg,Jh,Ji,Jj,Jk,Jl,Jm,Jn,Jo,Jp,Jq,Jr,Js,Jt,Ju,Jv,Jw,envA,lensOf,Jx,Jy,Jz,JA,JB,JC,JD,JE,JF,JG,JH,JI,JJ,JK,JL,JM,JN,JO,JP,JQ,JR,JS,JT,JU,JV,JW,↓reduceIte,if_true,reduceCtorEq,Nat.reduceEqDiff,JX,JY,JZ,J0,J1,J2,J3,J4,J5,J6,J7,Ya,Yb,Yc,Yd,Ye,Yf,Int.cast_ofNat_Int,Yg,Yh,Int.reduceLT,Int.reduceLE,Int.reduceEq,Int.reduceAdd,Int.reduceMul,Int.reduceSub,Int.reduceNeg,Yi,Yj,Yk,Yl,Ym,Yn,Yo,Yp,Yq,Yr,Ys,Yt,Yu,Yv,Yw,Yx,Yy,Yz,YA,YB,YC,YD,YE,YF,YG,YH,YI,YJ,YK,YL,YM,YN,YO,YP,YQ,YR,YS,YT, a1]))
        · have a2 : 4095 < vs[good inGive vs] := by
            generalize vs[good inGive vs] = v at hq a1
            unfold inGive at hq
            simp at hq
            omega
          (repeat (first | simp (disch := omega) only [wrap64, wrapU32, wrapU64, wrapU8] | simp only [Ja,Jb,Jc,Jd,Je,Jf,Jg,Jh,Ji,Jj,Jk,Jl,Jm,Jn,Jo,Jp,Jq,Jr,Js,Jt,Ju,Jv,Jw,envA,lensOf,Jx,Jy,Jz,JA,JB,JC,JD,JE,JF,JG,JH,JI,JJ,JK,JL,JM,JN,JO,JP,JQ,JR,JS,JT,JU,JV,JW,↓reduceIte,if_true,reduceCtorEq,Nat.reduceEqDiff,JX,JY,JZ,J0,J1,J2,J3,J4,J5,J6,J7,Ya,Yb,Yc,Yd,Ye,Yf,Int.cast_ofNat_Int,Yg,Yh,Int.reduceLT,Int.reduceLE,Int.reduceEq,Int.reduceAdd,Int.reduceMul,Int.reduceSub,Int.reduceNeg,Yi,Yj,Yk,Yl,Ym,Yn,Yo,Yp,Yq,Yr,Ys,Yt,Yu,Yv,Yw,Yx,Yy,Yz,YA,YB,YC,YD,YE,YF,YG,YH,YI,YJ,YK,YL,YM,YN,YO,YP,YQ,YR,YS,YT, a1, a2]))
  · simp only [Ja,Jb,Jc,Jd,Je,Jf,Jg,Jh,Ji,Jj,Jk,Jl,Jm,Jn,Jo,Jp,Jq,Jr,Js,Jt,Ju,Jv,Jw,envA,lensOf,Jx,Jy,Jz,JA,JB,JC,JD,JE,JF,JG,JH,JI,JJ,JK,JL,JM,JN,JO,JP,JQ,JR,JS,JT,JU,JV,JW,↓reduceIte,if_true,reduceCtorEq,Nat.reduceEqDiff,JX,JY,JZ,J0,J1,J2,J3,J4,J5,J6,J7,Ya,Yb,Yc,Yd,Ye,Yf,Int.cast_ofNat_Int,Yg,Yh,Int.reduceLT,Int.reduceLE,Int.reduceEq,Int.reduceAdd,Int.reduceMul,Int.reduceSub,Int.reduceNeg,Yi,Yj,Yk,Yl,Ym,Yn,Yo,Yp,Yq,Yr,Ys,Yt,Yu,Yv,Yw,Yx,Yy,Yz,YA,YB,YC,YD,YE,YF,YG,YH,YI,YJ,YK,YL,YM,YN,YO,YP,YQ,YR,YS,YT, t14, e14, h8', k1, k2]
theorem any_not {q : Int → Bool} {vs : List Int} : (!(vs.any fun z => !q z)) = vs.all q := by
  induction vs with
  | nil => rfl
  | cons x r ih =>
    rw [List.any_cons, List.all_cons, ← ih]
    cases q x <;> simp
/-- An event is valid. -/
def evOk (k w n rk : Int) (vs : List Int) : Bool :=
  if k = 1 then decide (0 ≤ w) && decide (w < 4) && decide (n = 0) && reqOk rk vs
  else if k = 2 then decide (0 ≤ w) && decide (w < 4) && decide (n = 0) && (decide (rk = 0) && decide (vs = []))
  else if k = 3 then decide (w = 0) && decide (1 ≤ n) && decide (n ≤ 16) && (decide (rk = 0) && decide (vs = []))
  else false
theorem len0 {vs : List Int} : ((vs.length : Int) = 0) = (vs = []) := by
  apply propext
  constructor
  · intro h
    exact List.eq_nil_of_length_eq_zero (by omega)
  · intro h
    subst h
    rfl
/-! ### bytes -/
/-- The bytes of a valid event. -/
def vb (vs : List Int) : List Nat := vs.flatMap fun v => nb (v + 1).toNat
def eb (k w n rk : Int) (vs : List Int) : List Nat := [k.toNat] ++ (if k = 1 then nb w.toNat ++ [rk.toNat] ++ vb vs else if k = 2 then nb w.toNat else nb n.toNat)
theorem nb_len (n : Nat) : (nb n).length ≤ 3 := by
  unfold nb
  split
  · simp
  · split <;> simp
theorem vb_take {vs : List Int} {i : Nat} (h : i < vs.length) : vb (vs.take (i + 1)) = vb (vs.take i) ++ nb (vs[i] + 1).toNat := by
  unfold vb
  rw [List.take_add_one, List.getElem?_eq_getElem h, List.flatMap_append]
  simp only [Option.toList_some, List.flatMap_cons, List.flatMap_nil, List.append_nil]
theorem vb_len : ∀ (vs : List Int), (vb vs).length ≤ 3 * vs.length
  | [] => by simp [vb]
  | v :: r => by
    have := vb_len r
    have h := nb_len (v + 1).toNat
    simp only [vb, List.flatMap_cons, List.length_append, List.length_cons] at this ⊢
    omega
theorem reqOk_spec {k : Int} {vs : List Int} (h : reqOk k vs = true) : vs.length = 8 ∧ (k = 1 ∨ k = 2) ∧ ∀ v ∈ vs, -1 ≤ v ∧ v ≤ 4095 := by
  unfold reqOk at h
  simp only [Bool.and_eq_true, decide_eq_true_eq] at h
  obtain ⟨h8, h⟩ := h
  refine ⟨h8, ?_⟩
  by_cases k1 : k = 1
  · rw [if_pos k1, List.all_eq_true] at h
    refine ⟨.inl k1, fun v hv => ?_⟩
    have := h v hv
    unfold inTake at this
    simp at this
    omega
  · rw [if_neg k1] at h
    by_cases k2 : k = 2
    · rw [if_pos k2, List.all_eq_true] at h
      refine ⟨.inr k2, fun v hv => ?_⟩
      have := h v hv
      unfold inGive at this
      simp at this
      omega
    · rw [if_neg k2] at h
      cases h
theorem evOk_spec {k w n rk : Int} {vs : List Int} (h : evOk k w n rk vs = true) : (k = 1 ∧ 0 ≤ w ∧ w < 4 ∧ reqOk rk vs = true) ∨ (k = 2 ∧ 0 ≤ w ∧ w < 4 ∧ vs = []) ∨ (k = 3 ∧ w = 0 ∧ 1 ≤ n ∧ n ≤ 16 ∧ vs = []) := by
  unfold evOk at h
  split at h
  · simp at h
    exact .inl ⟨by assumption, h.1.1.1, h.1.1.2, h.2⟩
  · split at h
    · simp at h
      exact .inr (.inl ⟨by assumption, h.1.1.1, h.1.1.2, h.2.2⟩)
    · split at h
      · simp at h
        exact .inr (.inr ⟨by assumption, h.1.1.1, h.1.1.2, h.1.2, h.2.2⟩)
      · cases h
theorem nat_of {w : Int} (h : 0 ≤ w) : ∃ m : Nat, w = m := ⟨w.toNat, by omega⟩
theorem eb_len {k w n rk : Int} {vs : List Int} (ho : evOk k w n rk vs = true) : (eb k w n rk vs).length ≤ 40 := by
  unfold eb
  have h1 := nb_len w.toNat
  have h2 := nb_len n.toNat
  rcases evOk_spec ho with ⟨rfl, w0, w4, hr⟩ | ⟨rfl, w0, w4, rfl⟩ | ⟨rfl, rfl, n1, n2, rfl⟩
  · obtain ⟨h8, hk, hv⟩ := reqOk_spec hr
    have := vb_len vs
    simp
    omega
  · simp
    omega
  · simp
    omega
theorem vb_lt {vs : List Int} (hv : ∀ v ∈ vs, -1 ≤ v ∧ v ≤ 4095) : ∀ x ∈ vb vs, x < 256 := by
  intro x hx
  unfold vb at hx
  obtain ⟨v, h1, h2⟩ := List.mem_flatMap.1 hx
  have := hv v h1
  exact nb_lt (by omega) x h2
theorem eb_lt {k w n rk : Int} {vs : List Int} (ho : evOk k w n rk vs = true) : ∀ x ∈ eb k w n rk vs, x < 256 := by
  intro x hx
  unfold eb at hx
  rcases evOk_spec ho with ⟨rfl, w0, w4, hr⟩ | ⟨rfl, w0, w4, rfl⟩ | ⟨rfl, rfl, n1, n2, rfl⟩
  · obtain ⟨h8, hk, hv⟩ := reqOk_spec hr
    rw [if_pos rfl] at hx
    simp only [List.mem_append, List.mem_singleton] at hx
    rcases hx with rfl | (hx | rfl) | hx
    · decide
    · exact nb_lt (by omega) x hx
    · omega
    · exact vb_lt hv x hx
  · rw [if_neg (by omega), if_pos rfl] at hx
    simp only [List.mem_append, List.mem_singleton] at hx
    rcases hx with rfl | hx
    · decide
    · exact nb_lt (by omega) x hx
  · rw [if_neg (by omega), if_neg (by omega)] at hx
    simp only [List.mem_append, List.mem_singleton] at hx
    rcases hx with rfl | hx
    · decide
    · exact nb_lt (by omega) x hx
end Go.Proofs.Ytbacblphkppigaa.Audit
