/- Scatter: both sides reckon the same. -/
import Derived.Test.YtbialjbfcdhmbaaPA
set_option linter.unusedVariables false
set_option linter.unusedSimpArgs false
namespace Go.Proofs.Ytbialjbfcdhmbaa.Looks
open Go.BH
attribute [local simp] envA lensOf
def tab8 : ByteArray := ⟨#[0, 1, 1, 2, 1, 2, 2, 3, 1, 2, 2, 3, 2, 3, 3, 4, 1, 2, 2, 3, 2, 3, 3, 4, 2, 3, 3, 4, 3, 4, 4, 5, 1, 2, 2, 3, 2, 3, 3, 4, 2, 3, 3, 4, 3, 4, 4, 5, 2, 3, 3, 4, 3, 4, 4, 5, 3, 4, 4, 5, 4, 5, 5, 6, 1, 2, 2, 3, 2, 3, 3, 4, 2, 3, 3, 4, 3, 4, 4, 5, 2, 3, 3, 4, 3, 4, 4, 5, 3, 4, 4, 5, 4, 5, 5, 6, 2, 3, 3, 4, 3, 4, 4, 5, 3, 4, 4, 5, 4, 5, 5, 6, 3, 4, 4, 5, 4, 5, 5, 6, 4, 5, 5, 6, 5, 6, 6, 7, 1, 2, 2, 3, 2, 3, 3, 4, 2, 3, 3, 4, 3, 4, 4, 5, 2, 3, 3, 4, 3, 4, 4, 5, 3, 4, 4, 5, 4, 5, 5, 6, 2, 3, 3, 4, 3, 4, 4, 5, 3, 4, 4, 5, 4, 5, 5, 6, 3, 4, 4, 5, 4, 5, 5, 6, 4, 5, 5, 6, 5, 6, 6, 7, 2, 3, 3, 4, 3, 4, 4, 5, 3, 4, 4, 5, 4, 5, 5, 6, 3, 4, 4, 5, 4, 5, 5, 6, 4, 5, 5, 6, 5, 6, 6, 7, 3, 4, 4, 5, 4, 5, 5, 6, 4, 5, 5, 6, 5, 6, 6, 7, 4, 5, 5, 6, 5, 6, 6, 7, 5, 6, 6, 7, 6, 7, 7, 8]⟩
def T35 (s : ByteArray) : Tr :=
(.nd (.pr (.sh .shr .u32 .u64) [(.v 0), (.k (.i 24))])
(.nd (.pr (.idxS .u32) [(.k (.s s)), (.v 1)])
(.nd (.pr (.sh .shr .u32 .u64) [(.v 0), (.k (.i 16))])
(.nd (.pr (.bin .and .u32) [(.v 3), (.k (.i 255))])
(.nd (.pr (.idxS .u32) [(.k (.s s)), (.v 4)])
(.nd (.pr (.bin .add .u8) [(.v 2), (.v 5)])
(.nd (.pr (.sh .shr .u32 .u64) [(.v 0), (.k (.i 8))])
(.nd (.pr (.bin .and .u32) [(.v 7), (.k (.i 255))])
(.nd (.pr (.idxS .u32) [(.k (.s s)), (.v 8)])
(.nd (.pr (.bin .add .u8) [(.v 6), (.v 9)])
(.nd (.pr (.bin .and .u32) [(.v 0), (.k (.i 255))])
(.nd (.pr (.idxS .u32) [(.k (.s s)), (.v 11)])
(.nd (.pr (.bin .add .u8) [(.v 10), (.v 12)])
(.nd (.pr (.conv .u8 .i64) [(.v 13)])
(.out 1 [(.v 14)])))))))))))))))
theorem t35_eq : t35 = T35 tab8 := rfl
/-- How many of the first i bits are set. -/
def pc (m i : Nat) : Nat := (ons m i).length
theorem pc_succ (m i : Nat) : pc m (i + 1) = pc m i + m / 2 ^ i % 2 := by
  unfold pc
  rw [ons_succ]
  by_cases h : m / 2 ^ i % 2 = 1
  · rw [if_pos h]
    simp
    omega
  · rw [if_neg h]
    omega
theorem pc_zero (m : Nat) : pc m 0 = 0 := rfl
theorem pc_le (m i : Nat) : pc m i ≤ i := ons_len m i
def tabOkB (s : ByteArray) : Bool := (List.range 256).all fun b => match (Pr.idxS .u32).eval [.s s, .i (b : Int)] with
  | some (.i n) => decide (n = (pc b 8 : Int))
  | _ => false
theorem tab8_okB : tabOkB tab8 = true := by kernel_rfl
theorem tab8_ok (b : Nat) (h : b < 256) : (Pr.idxS .u32).eval [.s tab8, .i (b : Int)] = some (.i (pc b 8 : Int)) := by
  have := List.all_eq_true.1 tab8_okB b (by simpa using h)
  split at this
  · rename_i n hn
    rw [hn, of_decide_eq_true this]
  · cases this
theorem pc_low (m : Nat) : ∀ i, i ≤ 8 → pc (m % 256) i = pc m i
  | 0, _ => rfl
  | i + 1, h => by
    rw [pc_succ, pc_succ, pc_low m i (by omega)]
    congr 1
    have : i = 0 ∨ i = 1 ∨ i = 2 ∨ i = 3 ∨ i = 4 ∨ i = 5 ∨ i = 6 ∨ i = 7 := by omega
    rcases this with rfl | rfl | rfl | rfl | rfl | rfl | rfl | rfl <;> omega
theorem pc_high (m : Nat) : ∀ i, pc m (8 + i) = pc m 8 + pc (m / 256) i
  | 0 => by rw [pc_zero]; rfl
  | i + 1 => by
    rw [← Nat.add_assoc, pc_succ m (8 + i), pc_high m i, pc_succ (m / 256) i, Nat.div_div_eq_div_mul, Nat.pow_add, show (2 : Nat) ^ 8 = 256 from rfl]
    omega
theorem pc_end (m n : Nat) (h : m < 2 ^ n) : ∀ i, pc m (n + i) = pc m n
  | 0 => rfl
  | i + 1 => by
    rw [← Nat.add_assoc, pc_succ, pc_end m n h i]
    have : m / 2 ^ (n + i) = 0 := Nat.div_eq_of_lt (Nat.lt_of_lt_of_le h (Nat.pow_le_pow_right (by omega) (by omega)))
    rw [this]
    rfl
theorem pc_two (m : Nat) (h : m < 65536) : pc m 32 = pc (m / 256) 8 + pc (m % 256) 8 := by
  have h1 := pc_end m 16 h 16
  have h2 := pc_high m 8
  rw [pc_low m 8 (by omega)]
  rw [show (16 : Nat) + 16 = 32 from rfl] at h1
  rw [show (8 : Nat) + 8 = 16 from rfl] at h2
  omega
theorem f31 (m : Nat) (h : m < 4294967296) : EvF fes 31 [.i m] [.i (pc m 32 : Nat)] := by
  refine EvF.w (fe := e31) (t := t31) rfl rfl ?_
  simp [t31, e31]
  refine CW.mk (f6 m h) ?_
  simp [LN, pc]
theorem f35 (m : Nat) (h : m < 65536) : EvF fes 35 [.i m] [.i (pc m 32 : Nat)] := by
  refine EvF.w (fe := e35) (t := t35) rfl rfl ?_
  rw [t35_eq]
  have hm : m < 4294967296 := by omega
  have h24 : (Pr.sh .shr .u32 .u64).eval [.i (m : Int), .i 24] = some (.i ((0 : Nat) : Int)) := by
    have := shrN m 24 (by omega)
    rwa [show m / 2 ^ 24 = 0 from Nat.div_eq_of_lt (by omega)] at this
  have h16 : (Pr.sh .shr .u32 .u64).eval [.i (m : Int), .i 16] = some (.i ((0 : Nat) : Int)) := by
    have := shrN m 16 (by omega)
    rwa [show m / 2 ^ 16 = 0 from Nat.div_eq_of_lt (by omega)] at this
  have h8 : (Pr.sh .shr .u32 .u64).eval [.i (m : Int), .i 8] = some (.i ((m / 256 : Nat) : Int)) := shrN m 8 (by omega)
  have a0 : (Pr.bin .and .u32).eval [.i ((0 : Nat) : Int), .i 255] = some (.i ((0 : Nat) : Int)) := andN 0 8 (by omega) (by omega)
  have a8 : (Pr.bin .and .u32).eval [.i ((m / 256 : Nat) : Int), .i 255] = some (.i ((m / 256 : Nat) : Int)) := by
    have := andN (m / 256) 8 (by omega) (by omega)
    rwa [show m / 256 % 2 ^ 8 = m / 256 from Nat.mod_eq_of_lt (by omega)] at this
  have am : (Pr.bin .and .u32).eval [.i (m : Int), .i 255] = some (.i ((m % 256 : Nat) : Int)) := andN m 8 hm (by omega)
  have i0 := tab8_ok 0 (by omega)
  have i8 := tab8_ok (m / 256) (by omega)
  have im := tab8_ok (m % 256) (by omega)
  rw [show pc 0 8 = 0 from by decide] at i0
  have p8 := pc_le (m / 256) 8
  have pm := pc_le (m % 256) 8
  have s0 : (Pr.bin .add .u8).eval [.i ((0 : Nat) : Int), .i ((0 : Nat) : Int)] = some (.i ((0 : Nat) : Int)) := rfl
  have s1 : (Pr.bin .add .u8).eval [.i ((0 : Nat) : Int), .i ((pc (m / 256) 8 : Nat) : Int)] = some (.i ((pc (m / 256) 8 : Nat) : Int)) := by
    rw [ev_add, wrapU8 (by omega)]
    simp
  have s2 : (Pr.bin .add .u8).eval [.i ((pc (m / 256) 8 : Nat) : Int), .i ((pc (m % 256) 8 : Nat) : Int)] = some (.i ((pc m 32 : Nat) : Int)) := by
    rw [ev_add, wrapU8 (by omega), pc_two m h]
    simp
  have c1 : (Pr.conv .u8 .i64).eval [.i ((pc m 32 : Nat) : Int)] = some (.i ((pc m 32 : Nat) : Int)) := by
    have := pc_le m 32
    rw [ev_conv, wrap64N (by omega)]
  generalize tab8 = s at i0 i8 im
  simp only [T35, e35, W_pr, W_out, envA, lensOf, Wm_some, den_v, den_k, List.map_cons, List.map_nil, List.cons_append, List.nil_append, List.getElem?_cons_zero, List.getElem?_cons_succ, Option.getD_some, h24, i0, h16, a0, s0, h8, a8, i8, s1, am, im, s2, c1, and_self]
theorem f36 (m : Nat) (h : m < 65536) : EvF fes 36 [.i m] [.i (pc m 32 : Nat)] := by
  refine EvF.w (fe := e36) (t := t36) rfl rfl ?_
  simp [t36, e36]
  refine CW.mk (f35 m h) ?_
  simp
theorem f32 (c : Nat) (h : c < 5) : EvF fes 32 [.i c] [.i ((2 ^ c : Nat) : Int)] := by
  have : c = 0 ∨ c = 1 ∨ c = 2 ∨ c = 3 ∨ c = 4 := by omega
  rcases this with rfl | rfl | rfl | rfl | rfl <;> exact EvF.at 20 (by kernel_rfl)
/-- Words taken in a page. -/
def tw (w : Nat) : Nat := if okw w = true then (if kd w = 1 then pc (mk' w) 32 * 2 ^ cl w else if kd w = 2 then 16 else 0) else 0
theorem okw_cl {w : Nat} (h : okw w = true) (hk : kd w = 1) : cl w < 5 := by
  unfold okw okc at h
  rw [if_neg (by omega), if_pos hk] at h
  simp only [Bool.and_eq_true, decide_eq_true_eq] at h
  exact h.1.1.1
theorem tw_le (w : Nat) : tw w ≤ 512 := by
  unfold tw
  split
  · rename_i h
    split
    · rename_i hk
      have h1 := pc_le (mk' w) 32
      have h2 : 2 ^ cl w ≤ 2 ^ 4 := Nat.pow_le_pow_right (by omega) (by have := okw_cl h hk; omega)
      exact Nat.mul_le_mul h1 h2
    · split <;> omega
  · omega
theorem f33 (w : Nat) (h : w < 4294967296) : EvF fes 33 [.i w] [.i (tw w : Nat)] := by
  refine EvF.w (fe := e33) (t := t33) rfl rfl ?_
  simp [t33, e33]
  refine CW.mk (f11 w h) ?_
  have htw := tw_le w
  unfold rdw tw at *
  cases ho : okw w with
  | false => simp
  | true =>
    rw [ho] at htw
    simp at htw ⊢
    by_cases h1 : kd w = 1
    · have hc := okw_cl ho h1
      simp [h1] at htw ⊢
      refine CW.mk (f31 _ (by unfold mk'; omega)) ?_
      simp
      refine CW.mk (f32 _ hc) ?_
      simp
      rw [show (pc (mk' w) 32 : Int) * 2 ^ cl w = ((pc (mk' w) 32 * 2 ^ cl w : Nat) : Int) by push_cast; rfl, wrap64N (by omega)]
    · by_cases h2 : kd w = 2
      · simp [h1, h2]
      · simp [h1, h2, show ¬ (kd w : Int) = 1 by omega, show ¬ (kd w : Int) = 2 by omega]
theorem f37 (w : Nat) (h : w < 4294967296) : EvF fes 37 [.i w] [.i (tw w : Nat)] := by
  refine EvF.w (fe := e37) (t := t37) rfl rfl ?_
  simp [t37, e37]
  refine CW.mk (f18 w h) ?_
  have htw := tw_le w
  unfold rdw tw at *
  cases ho : okw w with
  | false => simp
  | true =>
    rw [ho] at htw
    simp at htw ⊢
    by_cases h1 : kd w = 1
    · have hc := okw_cl ho h1
      simp [h1] at htw ⊢
      refine CW.mk (f36 _ (by unfold mk'; omega)) ?_
      simp
      rw [Nat.min_eq_left (show cl w ≤ IntKind.i64.bits from Nat.le_trans (show cl w ≤ 5 by omega) (by decide))]
      rw [show (pc (mk' w) 32 : Int) * 2 ^ cl w = ((pc (mk' w) 32 * 2 ^ cl w : Nat) : Int) by push_cast; rfl, wrap64N (by omega)]
    · by_cases h2 : kd w = 2
      · simp [h1, h2]
      · simp [h1, h2, show ¬ (kd w : Int) = 1 by omega, show ¬ (kd w : Int) = 2 by omega]
/-- Words in pages, and those taken. -/
def sc : Nat × Nat → List Nat → Nat × Nat
  | b, [] => b
  | b, w :: r => sc (if kd w = 1 then (b.1 + 16, b.2 + tw w) else b) r
theorem sc_step {xs : List Nat} {i : Nat} {b : Nat × Nat} (h : i < xs.length) : sc b (xs.drop i) = sc (if kd xs[i] = 1 then (b.1 + 16, b.2 + tw xs[i]) else b) (xs.drop (i + 1)) := by
  rw [List.drop_eq_getElem_cons h, sc]
def scat (xs : List Nat) : Int := if okm xs = true then (if (sc (0, 0) xs).1 = 0 then 0 else IntKind.i64.wrap ((1000 * (((sc (0, 0) xs).1 : Int) - (sc (0, 0) xs).2)).tdiv (sc (0, 0) xs).1)) else -1
theorem okm_all' {xs : List Nat} (h : okm xs = true) : xs.length ≤ 16 ∧ ∀ w ∈ xs, okw w = true := by
  simp only [okm, Bool.and_eq_true, decide_eq_true_eq, List.all_eq_true] at h
  exact h
theorem f34 (xs : List Nat) (hl : xs.length < 9223372036854775808) (hx : ∀ n ∈ xs, n < 4294967296) : EvF fes 34 [LN xs] [.i (scat xs)] := by
  refine EvF.w (fe := e34) (t := t34) rfl rfl ?_
  have hL : (Pr.len [ku32]).eval [LN xs] = some (.i xs.length) := by simp [LN]
  simp [t34, e34]
  refine CW.mk (f12 xs hl hx) ?_
  unfold scat
  cases hk : okm xs with
  | false => simp
  | true =>
    obtain ⟨h16, hall⟩ := okm_all' hk
    simp
    refine LW.inv (α := Nat × Nat × Nat) (fun a => a.1 ≤ xs.length ∧ a.2.1 ≤ 16 * a.1 ∧ a.2.2 ≤ 512 * a.1 ∧ sc a.2 (xs.drop a.1) = sc (0, 0) xs) (fun a => [.i a.2.1, .i a.2.2, .i a.1]) (fun a => xs.length - a.1) (fun ⟨i, p, u⟩ ⟨hi, hp, hu, hs⟩ => ?_) (a := (0, 0, 0)) (by simp) rfl
    simp only at hi hp hu hs ⊢
    by_cases hil : i < xs.length
    · have h2 : (i : Int) < xs.length := by omega
      have h1 : ¬ (i : Int) < 0 := by omega
      have hx' := hx _ (List.getElem_mem hil)
      have hw := hall _ (List.getElem_mem hil)
      rw [sc_step hil] at hs
      simp [hL, h2, h1]
      simp only [LN]
      simp [hil]
      generalize hwe : xs[i] = w at hx' hw hs
      refine CW.mk (f11 _ hx') ?_
      simp only [rdw, hw, if_true]
      have htw := tw_le w
      by_cases h1k : kd w = 1
      · rw [if_pos h1k] at hs
        simp [h1k, h1, h2, hil, hwe]
        refine CW.mk (f33 w hx') ?_
        simp
        refine ⟨i + 1, p + 16, u + tw w, ⟨by omega, by omega, by omega, hs⟩, by omega, ?_, ?_, ?_⟩
        · rw [wrap64 (by omega)]
          simp
        · rw [wrap64 (by omega)]
          simp
        · rw [wrap64 (by omega)]
          simp
      · rw [if_neg h1k] at hs
        simp [show ¬ (kd w : Int) = 1 by omega]
        refine ⟨i + 1, p, u, ⟨by omega, by omega, by omega, hs⟩, by omega, rfl, rfl, ?_⟩
        rw [wrap64 (by omega)]
        simp
    · have h2 : ¬ (i : Int) < xs.length := by omega
      obtain rfl : i = xs.length := by omega
      simp [hL]
      simp [sc] at hs
      rw [← hs]
      simp only
      by_cases hp0 : p = 0
      · simp [hp0]
      · have hp0' : ¬ (p : Int) = 0 := by omega
        simp [hp0]
        rw [wrap64 (x := (p : Int) - u) (by omega), wrap64 (x := 1000 * ((p : Int) - u)) (by omega)]
theorem f38 (xs : List Nat) (hl : xs.length < 9223372036854775808) (hx : ∀ n ∈ xs, n < 4294967296) : EvF fes 38 [LN xs] [.i (scat xs)] := by
  refine EvF.w (fe := e38) (t := t38) rfl rfl ?_
  have hL : (Pr.len [ku32]).eval [LN xs] = some (.i xs.length) := by simp [LN]
  simp [t38, e38]
  refine CW.mk (f22 xs hl hx) ?_
  unfold scat
  cases hk : okm xs with
  | false => simp
  | true =>
    obtain ⟨h16, hall⟩ := okm_all' hk
    simp [hL]
    refine LW.inv (α := Nat × Nat × Nat) (fun a => a.1 ≤ xs.length ∧ a.2.1 ≤ 16 * a.1 ∧ a.2.2 ≤ 512 * a.1 ∧ sc a.2 (xs.drop a.1) = sc (0, 0) xs) (fun a => [.i a.2.1, .i ((a.2.1 : Int) - a.2.2), .i a.1]) (fun a => xs.length - a.1) (fun ⟨i, p, u⟩ ⟨hi, hp, hu, hs⟩ => ?_) (a := (0, 0, 0)) (by simp) rfl
    simp only at hi hp hu hs ⊢
    by_cases hil : i < xs.length
    · have h2 : (i : Int) < xs.length := by omega
      have h1 : ¬ (i : Int) < 0 := by omega
      have hx' := hx _ (List.getElem_mem hil)
      have hw := hall _ (List.getElem_mem hil)
      rw [sc_step hil] at hs
      simp [hL, h2, h1]
      simp only [LN]
      simp [hil]
      generalize hwe : xs[i] = w at hx' hw hs
      refine CW.mk (f18 _ hx') ?_
      simp only [rdw, hw, if_true]
      have htw := tw_le w
      by_cases h1k : kd w = 1
      · rw [if_pos h1k] at hs
        simp [h1k, h1, h2, hil, hwe]
        refine CW.mk (f37 w hx') ?_
        simp
        refine ⟨i + 1, p + 16, u + tw w, ⟨by omega, by omega, by omega, hs⟩, by omega, ?_, ?_, ?_⟩
        · rw [wrap64 (by omega)]
          simp
        · rw [wrap64 (x := 16 - (tw w : Int)) (by omega), wrap64 (by omega)]
          omega
        · rw [wrap64 (by omega)]
          simp
      · rw [if_neg h1k] at hs
        simp [show ¬ (kd w : Int) = 1 by omega]
        refine ⟨i + 1, p, u, ⟨by omega, by omega, by omega, hs⟩, by omega, rfl, rfl, ?_⟩
        rw [wrap64 (by omega)]
        simp
    · have h2 : ¬ (i : Int) < xs.length := by omega
      obtain rfl : i = xs.length := by omega
      simp [hL]
      simp [sc] at hs
      rw [← hs]
      simp only
      by_cases hp0 : p = 0
      · simp [hp0]
      · have hp0' : ¬ (p : Int) = 0 := by omega
        simp [hp0]
        rw [wrap64 (x := 1000 * ((p : Int) - u)) (by omega)]
theorem f39 (xs : List Nat) (hl : xs.length < 9223372036854775808) (hx : ∀ n ∈ xs, n < 4294967296) : EvF fes 39 [LN xs] [.b true] := by
  refine EvF.w (fe := e39) (t := t39) rfl rfl ?_
  have hL : (Pr.len [ku32]).eval [LN xs] = some (.i xs.length) := by simp [LN]
  simp [t39, e39]
  refine CW.mk (f1 xs (by omega)) ?_
  by_cases h0 : xs.length ≤ 1048576
  · have h1 : ¬ (1048576 - (xs.length : Int) < 0) := by omega
    simp [h0, h1]
    refine CW.mk (f3 xs (by omega)) ?_
    simp [hL]
    refine CW.mk (f34 xs hl hx) ?_
    simp
    refine CW.mk (f3 xs (by omega)) ?_
    simp [hL]
    refine CW.mk (f38 xs hl hx) ?_
    simp
    refine CW.mk (f3 xs (by omega)) ?_
    simp [hL]
    refine CW.mk (f25 xs (by omega)) ?_
    simp
  · simp [h0]
end Go.Proofs.Ytbialjbfcdhmbaa.Looks
