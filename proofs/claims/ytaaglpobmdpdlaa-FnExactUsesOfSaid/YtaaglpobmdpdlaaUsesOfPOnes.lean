/- Scatter: both sides reckon the same. -/
import Derived.Test.YtaaglpobmdpdlaaUsesOfPW
set_option linter.unusedVariables false
set_option linter.unusedSimpArgs false
namespace Go.Proofs.Ytaaglpobmdpdlaa.UsesOf
open Go.BH
attribute [local simp] envA lensOf
def tab8 : ByteArray := ⟨#[0, 1, 1, 2, 1, 2, 2, 3, 1, 2, 2, 3, 2, 3, 3, 4, 1, 2, 2, 3, 2, 3, 3, 4, 2, 3, 3, 4, 3, 4, 4, 5, 1, 2, 2, 3, 2, 3, 3, 4, 2, 3, 3, 4, 3, 4, 4, 5, 2, 3, 3, 4, 3, 4, 4, 5, 3, 4, 4, 5, 4, 5, 5, 6, 1, 2, 2, 3, 2, 3, 3, 4, 2, 3, 3, 4, 3, 4, 4, 5, 2, 3, 3, 4, 3, 4, 4, 5, 3, 4, 4, 5, 4, 5, 5, 6, 2, 3, 3, 4, 3, 4, 4, 5, 3, 4, 4, 5, 4, 5, 5, 6, 3, 4, 4, 5, 4, 5, 5, 6, 4, 5, 5, 6, 5, 6, 6, 7, 1, 2, 2, 3, 2, 3, 3, 4, 2, 3, 3, 4, 3, 4, 4, 5, 2, 3, 3, 4, 3, 4, 4, 5, 3, 4, 4, 5, 4, 5, 5, 6, 2, 3, 3, 4, 3, 4, 4, 5, 3, 4, 4, 5, 4, 5, 5, 6, 3, 4, 4, 5, 4, 5, 5, 6, 4, 5, 5, 6, 5, 6, 6, 7, 2, 3, 3, 4, 3, 4, 4, 5, 3, 4, 4, 5, 4, 5, 5, 6, 3, 4, 4, 5, 4, 5, 5, 6, 4, 5, 5, 6, 5, 6, 6, 7, 3, 4, 4, 5, 4, 5, 5, 6, 4, 5, 5, 6, 5, 6, 6, 7, 4, 5, 5, 6, 5, 6, 6, 7, 5, 6, 6, 7, 6, 7, 7, 8]⟩
def T35 (s : ByteArray) : Tr :=
(.nd (.pr (.sh .shr .u32 .u64) [(.v 0), (.k (.i 24))])
(.nd (.pr (.idxS .u32) [(.k (.s s)), (.v 1)])
(.nd (.pr (.sh .shr .u32 .u64) [(.v 0), (.k (.i 16))])
(.nd (.pr (.bin .and .u32) [(.v 3), (.k (.i 255))])
(.nd (.pr (.idxS .u32) [(.k (.s s)), (.v 4)])
(.nd (.pr (.bin .add .u8) [(.v 2), (.v 5)])
(.nd (.pr (.sh .shr .u32 .u64) [(.v 0), (.k (.i 8))])
(.nd (.pr (.bin .and .u32) [(.v 7), (.k (.i 255))])
(.nd (.pr (.idxS .u32) [(.k (.s s)), (.v 8)])
(.nd (.pr (.bin .add .u8) [(.v 6), (.v 9)])
(.nd (.pr (.bin .and .u32) [(.v 0), (.k (.i 255))])
(.nd (.pr (.idxS .u32) [(.k (.s s)), (.v 11)])
(.nd (.pr (.bin .add .u8) [(.v 10), (.v 12)])
(.nd (.pr (.conv .u8 .i64) [(.v 13)])
(.out 1 [(.v 14)])))))))))))))))
theorem t35_eq : t24 = T35 tab8 := rfl
/-- How many of the first i bits are set. -/
def pc (m i : Nat) : Nat := (ons m i).length
theorem pc_succ (m i : Nat) : pc m (i + 1) = pc m i + m / 2 ^ i % 2 := by
  unfold pc
  rw [ons_succ]
  by_cases h : m / 2 ^ i % 2 = 1
  · rw [if_pos h]
    simp
    omega
  · rw [if_neg h]
    omega
theorem pc_zero (m : Nat) : pc m 0 = 0 := rfl
theorem pc_le (m i : Nat) : pc m i ≤ i := ons_len m i
def tabOkB (s : ByteArray) : Bool := (List.range 256).all fun b => match (Pr.idxS .u32).eval [.s s, .i (b : Int)] with
  | some (.i n) => decide (n = (pc b 8 : Int))
  | _ => false
theorem tab8_okB : tabOkB tab8 = true := by kernel_rfl
theorem tab8_ok (b : Nat) (h : b < 256) : (Pr.idxS .u32).eval [.s tab8, .i (b : Int)] = some (.i (pc b 8 : Int)) := by
  have := List.all_eq_true.1 tab8_okB b (by simpa using h)
  split at this
  · rename_i n hn
    rw [hn, of_decide_eq_true this]
  · cases this
theorem pc_low (m : Nat) : ∀ i, i ≤ 8 → pc (m % 256) i = pc m i
  | 0, _ => rfl
  | i + 1, h => by
    rw [pc_succ, pc_succ, pc_low m i (by omega)]
    congr 1
    have : i = 0 ∨ i = 1 ∨ i = 2 ∨ i = 3 ∨ i = 4 ∨ i = 5 ∨ i = 6 ∨ i = 7 := by omega
    rcases this with rfl | rfl | rfl | rfl | rfl | rfl | rfl | rfl <;> omega
theorem pc_high (m : Nat) : ∀ i, pc m (8 + i) = pc m 8 + pc (m / 256) i
  | 0 => by rw [pc_zero]; rfl
  | i + 1 => by
    rw [← Nat.add_assoc, pc_succ m (8 + i), pc_high m i, pc_succ (m / 256) i, Nat.div_div_eq_div_mul, Nat.pow_add, show (2 : Nat) ^ 8 = 256 from rfl]
    omega
theorem pc_end (m n : Nat) (h : m < 2 ^ n) : ∀ i, pc m (n + i) = pc m n
  | 0 => rfl
  | i + 1 => by
    rw [← Nat.add_assoc, pc_succ, pc_end m n h i]
    have : m / 2 ^ (n + i) = 0 := Nat.div_eq_of_lt (Nat.lt_of_lt_of_le h (Nat.pow_le_pow_right (by omega) (by omega)))
    rw [this]
    rfl
theorem pc_two (m : Nat) (h : m < 65536) : pc m 32 = pc (m / 256) 8 + pc (m % 256) 8 := by
  have h1 := pc_end m 16 h 16
  have h2 := pc_high m 8
  rw [pc_low m 8 (by omega)]
  rw [show (16 : Nat) + 16 = 32 from rfl] at h1
  rw [show (8 : Nat) + 8 = 16 from rfl] at h2
  omega
theorem f13 (m : Nat) (h : m < 4294967296) : EvF fes 13 [.i m] [.i (pc m 32 : Nat)] := by
  refine EvF.w (fe := e13) (t := t13) rfl rfl ?_
  simp [t13, e13]
  refine CW.mk (f6 m h) ?_
  simp [LN, pc]
theorem f24 (m : Nat) (h : m < 65536) : EvF fes 24 [.i m] [.i (pc m 32 : Nat)] := by
  refine EvF.w (fe := e24) (t := t24) rfl rfl ?_
  rw [t35_eq]
  have hm : m < 4294967296 := by omega
  have h24 : (Pr.sh .shr .u32 .u64).eval [.i (m : Int), .i 24] = some (.i ((0 : Nat) : Int)) := by
    have := shrN m 24 (by omega)
    rwa [show m / 2 ^ 24 = 0 from Nat.div_eq_of_lt (by omega)] at this
  have h16 : (Pr.sh .shr .u32 .u64).eval [.i (m : Int), .i 16] = some (.i ((0 : Nat) : Int)) := by
    have := shrN m 16 (by omega)
    rwa [show m / 2 ^ 16 = 0 from Nat.div_eq_of_lt (by omega)] at this
  have h8 : (Pr.sh .shr .u32 .u64).eval [.i (m : Int), .i 8] = some (.i ((m / 256 : Nat) : Int)) := shrN m 8 (by omega)
  have a0 : (Pr.bin .and .u32).eval [.i ((0 : Nat) : Int), .i 255] = some (.i ((0 : Nat) : Int)) := andN 0 8 (by omega) (by omega)
  have a8 : (Pr.bin .and .u32).eval [.i ((m / 256 : Nat) : Int), .i 255] = some (.i ((m / 256 : Nat) : Int)) := by
    have := andN (m / 256) 8 (by omega) (by omega)
    rwa [show m / 256 % 2 ^ 8 = m / 256 from Nat.mod_eq_of_lt (by omega)] at this
  have am : (Pr.bin .and .u32).eval [.i (m : Int), .i 255] = some (.i ((m % 256 : Nat) : Int)) := andN m 8 hm (by omega)
  have i0 := tab8_ok 0 (by omega)
  have i8 := tab8_ok (m / 256) (by omega)
  have im := tab8_ok (m % 256) (by omega)
  rw [show pc 0 8 = 0 from by decide] at i0
  have p8 := pc_le (m / 256) 8
  have pm := pc_le (m % 256) 8
  have s0 : (Pr.bin .add .u8).eval [.i ((0 : Nat) : Int), .i ((0 : Nat) : Int)] = some (.i ((0 : Nat) : Int)) := rfl
  have s1 : (Pr.bin .add .u8).eval [.i ((0 : Nat) : Int), .i ((pc (m / 256) 8 : Nat) : Int)] = some (.i ((pc (m / 256) 8 : Nat) : Int)) := by
    rw [ev_add, wrapU8 (by omega)]
    simp
  have s2 : (Pr.bin .add .u8).eval [.i ((pc (m / 256) 8 : Nat) : Int), .i ((pc (m % 256) 8 : Nat) : Int)] = some (.i ((pc m 32 : Nat) : Int)) := by
    rw [ev_add, wrapU8 (by omega), pc_two m h]
    simp
  have c1 : (Pr.conv .u8 .i64).eval [.i ((pc m 32 : Nat) : Int)] = some (.i ((pc m 32 : Nat) : Int)) := by
    have := pc_le m 32
    rw [ev_conv, wrap64N (by omega)]
  generalize tab8 = s at i0 i8 im
  simp only [T35, e24, W_pr, W_out, envA, lensOf, Wm_some, den_v, den_k, List.map_cons, List.map_nil, List.cons_append, List.nil_append, List.getElem?_cons_zero, List.getElem?_cons_succ, Option.getD_some, h24, i0, h16, a0, s0, h8, a8, i8, s1, am, im, s2, c1, and_self]
theorem f25 (m : Nat) (h : m < 65536) : EvF fes 25 [.i m] [.i (pc m 32 : Nat)] := by
  refine EvF.w (fe := e25) (t := t25) rfl rfl ?_
  simp [t25, e25]
  refine CW.mk (f24 m h) ?_
  simp
/-- Words taken in a page. -/
def tw (w : Nat) : Nat := if okw w = true then (if kd w = 1 then pc (mk' w) 32 * 2 ^ cl w else if kd w = 2 then 16 else 0) else 0
theorem okw_cl {w : Nat} (h : okw w = true) (hk : kd w = 1) : cl w < 5 := by
  unfold okw okc at h
  rw [if_neg (by omega), if_pos hk] at h
  simp only [Bool.and_eq_true, decide_eq_true_eq] at h
  exact h.1.1.1
theorem tw_le (w : Nat) : tw w ≤ 512 := by
  unfold tw
  split
  · rename_i h
    split
    · rename_i hk
      have h1 := pc_le (mk' w) 32
      have h2 : 2 ^ cl w ≤ 2 ^ 4 := Nat.pow_le_pow_right (by omega) (by have := okw_cl h hk; omega)
      exact Nat.mul_le_mul h1 h2
    · split <;> omega
  · omega
/-- Words in pages, and those taken. -/
theorem okm_all' {xs : List Nat} (h : okm xs = true) : xs.length ≤ 16 ∧ ∀ w ∈ xs, okw w = true := by
  simp only [okm, Bool.and_eq_true, decide_eq_true_eq, List.all_eq_true] at h
  exact h
end Go.Proofs.Ytaaglpobmdpdlaa.UsesOf
