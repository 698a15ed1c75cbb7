/- FnNumBack: over numbers and lists alone: whatever number is drawn, what the program writes for it is read back, one byte in, by the program. No condition. -/
import Derived.Test.YtcfbhhbfnckhpaaPFnNumBackx2
import Derived.Test.YtcfbhhbfnckhpaaPK
set_option linter.unusedVariables false
set_option linter.unusedSimpArgs false
namespace Go.Proofs.Ytcfbhhbfnckhpaa.Pure
open Go.RowKit Go.Proofs.Ytcfbhhbfnckhpaa.PFnNumBack Go.Proofs.YtcfbhhbfnckhpaaW.PrintWords Go.Proofs.YtcfbhhbfnckhpaaW.PrintLast Go.Proofs.YtcfbhhbfnckhpaaW.PrintMore
open Go.Proofs.Ytcfbhhbfnckhpaa.PK (wr i64b u32b u8b tmod_pos tdiv_pos or_comm')
open Go.Proofs.Ytcfbhhbfnckhpaa.PK renaming Ev → E
/-- The bytes of a number of at most 16 bits. -/
def numB (n : Int) : List Int := if n < 128 then [n] else if n < 16384 then [128 + n % 128, n / 128] else [128 + n % 128, 128 + n / 128 % 128, n / 16384]
theorem spec_last (n : Int) (l : List Int) (h0 : 0 ≤ n) (h1 : n < 128) (hl : l.length < 100) : E (fun k => spec_NumBytes.l0 k n l) (l ++ [n]) := by
  refine .step (fun _ => rfl) (.neg (by omega) (.pos (by omega) (.of fun _ => ?_)))
  rw [show n % 256 = n by omega]
theorem spec_more (n : Int) (l r : List Int) (h0 : 128 ≤ n) (h1 : n ≤ 65535) (hl : l.length < 100) (h : E (fun k => spec_NumBytes.l0 k (n / 128) (l ++ [128 + n % 128])) r) : E (fun k => spec_NumBytes.l0 k n l) r := by
  refine .step (fun _ => rfl) (.pos (by omega) (.pos (by omega) ?_))
  rw [tdiv_pos n 128 (by omega), tmod_pos n 128 (by omega), wr (x := n / 128) (by omega) (by omega), wr (x := 128 + n % 128) (by omega) (by omega), show (128 + n % 128) % 256 = 128 + n % 128 by omega]
  exact h
theorem spec_all (n : Int) (h0 : 0 ≤ n) (h1 : n ≤ 65535) : E (fun k => spec_NumBytes.l0 k n []) (numB n) := by
  unfold numB
  by_cases a : n < 128
  · rw [if_pos a]
    exact spec_last n [] h0 a (by simp)
  · rw [if_neg a]
    refine spec_more n [] _ (by omega) h1 (by simp) ?_
    by_cases b : n < 16384
    · rw [if_pos b]
      exact spec_last (n / 128) _ (by omega) (by omega) (by simp)
    · rw [if_neg b]
      refine spec_more (n / 128) _ _ (by omega) (by omega) (by simp) ?_
      have := spec_last (n / 128 / 128) ([] ++ [128 + n % 128] ++ [128 + n / 128 % 128]) (by omega) (by omega) (by simp)
      rw [show n / 16384 = n / 128 / 128 by omega]
      exact this
theorem wraps_i64 (n : Int) (h₀ : 0 ≤ n) (h₁ : n < 2 ^ 62) : IntKind.i64.wrap n = n := by rw [IntKind.wrap_i64]; omega
theorem bits_eq (n : Int) (h0 : 0 ≤ n) (h1 : n ≤ 65535) : Go.bits .or .i64 (Go.bits .and .i64 n 127) 128 = 128 + n % 128 := by
  have e : Go.bits .and .i64 n 127 = n % 128 := bits_mask .i64 62 (by decide) wraps_i64 7 (by decide) n h0 (by omega)
  rw [e, or_comm']
  exact bits_join .i64 62 (by decide) wraps_i64 7 128 (n % 128) (by omega) (by omega) (by omega) (by omega) (by omega) (by omega)
theorem impl_last (n : Int) (l : List Int) (h0 : 0 ≤ n) (h1 : n < 128) (hl : l.length < 100) : E (fun k => impl_numBytes.l0 k l n) (l ++ [n]) := by
  refine .step (fun _ => rfl) (.neg (by omega) (.pos (by omega) (.of fun _ => ?_)))
  rw [show n % 256 = n by omega]
theorem impl_more (n : Int) (l r : List Int) (h0 : 128 ≤ n) (h1 : n ≤ 65535) (hl : l.length < 100) (h : E (fun k => impl_numBytes.l0 k (l ++ [128 + n % 128]) (n / 128)) r) : E (fun k => impl_numBytes.l0 k l n) r := by
  refine .step (fun _ => rfl) (.pos (by omega) (.pos (by omega) ?_))
  rw [bits_eq n (by omega) h1, show (128 + n % 128) % 256 = 128 + n % 128 by omega]
  exact h
theorem impl_all (n : Int) (h0 : 0 ≤ n) (h1 : n ≤ 65535) : E (fun k => impl_numBytes.l0 k [] n) (numB n) := by
  unfold numB
  by_cases a : n < 128
  · rw [if_pos a]
    exact impl_last n [] h0 a (by simp)
  · rw [if_neg a]
    refine impl_more n [] _ (by omega) h1 (by simp) ?_
    by_cases b : n < 16384
    · rw [if_pos b]
      exact impl_last (n / 128) _ (by omega) (by omega) (by simp)
    · rw [if_neg b]
      refine impl_more (n / 128) _ _ (by omega) (by omega) (by simp) ?_
      have := impl_last (n / 128 / 128) ([] ++ [128 + n % 128] ++ [128 + n / 128 % 128]) (by omega) (by omega) (by simp)
      rw [show n / 16384 = n / 128 / 128 by omega]
      exact this
theorem spec_f (n : Int) : E (fun k => spec_NumBytes.f k n) (if 0 ≤ n ∧ n ≤ 65535 then numB n else []) := by
  unfold spec_NumBytes.f
  refine .ite (fun h => ?_) (fun h => ?_)
  · rw [if_neg (by omega)]
    exact .step (fun _ => rfl) (.of fun _ => rfl)
  · refine .step (fun _ => rfl) (.ite (fun g => ?_) (fun g => ?_))
    · have g' : n > 65535 := by simpa using g
      rw [if_neg (by omega)]
      exact .mk _
    · have g' : ¬ n > 65535 := by simpa using g
      rw [if_pos (by omega)]
      exact spec_all n (by omega) (by omega)
theorem impl_f (n : Int) : E (fun k => impl_NumBytes.f k n) (if 0 ≤ n ∧ n ≤ 65535 then numB n else []) := by
  have w : impl_within.f n 0 65535 = some (decide (0 ≤ n ∧ n ≤ 65535)) := by
    unfold impl_within.f
    by_cases h : n ≥ 0
    · have : 0 ≤ n := h
      simp [this]
    · have : ¬ 0 ≤ n := h
      simp [this]
  unfold impl_NumBytes.f impl_numBytes.f
  simp only [w, Option.bind_some, decide_eq_true_eq]
  refine .ite (fun h => ?_) (fun h => ?_)
  · rw [if_pos h]
    exact .bind (impl_all n h.1 h.2) (.mk _)
  · rw [if_neg h]
    exact .mk _
theorem numB_len (n : Int) : (numB n).length < 1000 := by
  unfold numB
  split
  · simp
  · split <;> simp
/-- A reader of draws, in its bounds: 'm' draws at most have been made. -/
def Cur (c : List Int) (a s : Int) (m : Nat) : Prop := (∀ x ∈ c, 0 ≤ x ∧ x ≤ 255) ∧ c.length ≤ 1048576 ∧ 0 ≤ a ∧ a ≤ m ∧ 0 ≤ s ∧ s < 65521
theorem rd_byte {c : List Int} (h : ∀ x ∈ c, 0 ≤ x ∧ x ≤ 255) (i : Int) : 0 ≤ rd c i ∧ rd c i ≤ 255 := by
  unfold rd
  rw [List.getD_eq_getElem?_getD]
  by_cases k : i.toNat < c.length
  · rw [List.getElem?_eq_getElem k]
    exact h _ (List.getElem_mem k)
  · rw [List.getElem?_eq_none (by omega)]
    simp
theorem Cur.more {c : List Int} {a s : Int} {m n : Nat} (h : Cur c a s m) (hn : m ≤ n) : Cur c a s n := ⟨h.1, h.2.1, h.2.2.1, by have := h.2.2.2.1; omega, h.2.2.2.2⟩
theorem pick_some {c : List Int} {a s : Int} {m : Nat} (h : Cur c a s m) (hm : m ≤ 1000000000) (n : Int) (hn : n ≤ 1000000000) :
    ∃ x a' s', spec_l01Cur_pick.f c a s n = some (x, a', s') ∧ Cur c a' s' (m + 1) ∧ 0 ≤ x ∧ (2 ≤ n → x < n) ∧ (n < 2 → x = 0) := by
  obtain ⟨h1, h2, h3, h4, h5, h6⟩ := h
  unfold spec_l01Cur_pick.f
  by_cases b : n < 2
  · rw [if_pos b]
    exact ⟨0, a, s, rfl, ⟨h1, h2, h3, by omega, h5, h6⟩, by omega, fun _ => by omega, fun _ => rfl⟩
  · have hp : 0 < n := by omega
    rw [if_neg b]
    have es : Int.tmod (wrap64 ((wrap64 (s * 1103)) + 12345)) 65521 = (s * 1103 + 12345) % 65521 := by
      rw [wr (x := s * 1103) (by omega) (by omega), wr (x := s * 1103 + 12345) (by omega) (by omega), tmod_pos _ _ (by omega)]
    have hs0 : 0 ≤ (s * 1103 + 12345) % 65521 := by omega
    have hs1 : (s * 1103 + 12345) % 65521 < 65521 := by omega
    rw [es, wr (x := a + 1) (by omega) (by omega)]
    generalize (s * 1103 + 12345) % 65521 = t at hs0 hs1
    by_cases k : a < (c.length : Int)
    · rw [if_pos k, if_pos h3, if_neg (by omega)]
      have hb := rd_byte h1 a
      rw [wr (x := rd c a) (by omega) (by omega), tmod_pos _ _ hb.1]
      exact ⟨_, _, _, rfl, ⟨h1, h2, by omega, by omega, h5, h6⟩, Int.emod_nonneg _ (by omega), fun _ => Int.emod_lt_of_pos _ hp, fun _ => by omega⟩
    · rw [if_neg k]
      by_cases e : (c.length : Int) > 0
      · rw [if_pos e, if_neg (by omega), tmod_pos _ _ h3, if_pos (Int.emod_nonneg _ (by omega)), if_pos (Int.emod_lt_of_pos _ e), if_neg (by omega)]
        have hb := rd_byte h1 (a % (c.length : Int))
        rw [tdiv_pos _ _ hs0, wr (x := t / 7) (by omega) (by omega), wr (x := rd c (a % (c.length : Int))) (by omega) (by omega), wr (x := t / 7 + rd c (a % (c.length : Int))) (by omega) (by omega), tmod_pos _ _ (by omega)]
        exact ⟨_, _, _, rfl, ⟨h1, h2, by omega, by omega, hs0, hs1⟩, Int.emod_nonneg _ (by omega), fun _ => Int.emod_lt_of_pos _ hp, fun _ => by omega⟩
      · rw [if_neg e, if_neg (by omega)]
        exact ⟨_, _, _, rfl, ⟨h1, h2, by omega, by omega, hs0, hs1⟩, Int.emod_nonneg _ (by omega), fun _ => Int.emod_lt_of_pos _ hp, fun _ => by omega⟩
theorem open_some {c : List Int} (h : ∀ x ∈ c, 0 ≤ x ∧ x ≤ 255) (hl : c.length ≤ 1048576) : ∃ s, spec_l01Open.f c = some (c, 0, s) ∧ Cur c 0 s 0 :=
  ⟨_, rfl, h, hl, by omega, by omega, by omega, by omega⟩
theorem big_ev (c : List Int) : laws_big.f c = some (decide (1048576 < (c.length : Int))) := rfl
theorem raw_some {c : List Int} {a s : Int} {m : Nat} (h : Cur c a s m) (hm : m ≤ 1000000) :
    ∃ x a' s', spec_l01Cur_raw.f c a s = some (x, a', s') ∧ Cur c a' s' (m + 2) ∧ -9223372036854775808 ≤ x ∧ x ≤ 9223372036854775807 := by
  unfold spec_l01Cur_raw.f
  obtain ⟨x, a1, s1, e1, c1, x0, x1, _⟩ := pick_some h (by omega) 8 (by omega)
  rw [e1, Option.bind_some]
  by_cases b : x = 0
  · rw [if_pos b]
    obtain ⟨y, a2, s2, e2, c2, y0, y1, _⟩ := pick_some c1 (by omega) 256 (by omega)
    rw [e2, Option.bind_some]
    have := y1 (by omega)
    exact ⟨_, _, _, rfl, c2, by rw [wr (by omega) (by omega)]; omega, by rw [wr (by omega) (by omega)]; omega⟩
  · rw [if_neg b]
    by_cases b : x = 1
    · rw [if_pos b]
      simp only [Option.bind_some]
      obtain ⟨y, a2, s2, e2, c2, y0, y1, _⟩ := pick_some c1 (by omega) 8 (by omega)
      have y1 := y1 (by omega)
      rw [e2, Option.bind_some, if_pos y0, if_pos (by simp; omega)]
      refine ⟨_, _, _, rfl, c2, ?_⟩
      have : y = 0 ∨ y = 1 ∨ y = 2 ∨ y = 3 ∨ y = 4 ∨ y = 5 ∨ y = 6 ∨ y = 7 := by omega
      rcases this with rfl | rfl | rfl | rfl | rfl | rfl | rfl | rfl <;> simp [rd]
    · rw [if_neg b]
      obtain ⟨y, a2, s2, e2, c2, y0, y1, _⟩ := pick_some c1 (by omega) 14 (by omega)
      rw [e2, Option.bind_some]
      have := y1 (by omega)
      exact ⟨_, _, _, rfl, c2, by rw [wr (by omega) (by omega)]; omega, by rw [wr (by omega) (by omega)]; omega⟩
theorem draw_some {c : List Int} (h : ∀ x ∈ c, 0 ≤ x ∧ x ≤ 255) (hl : c.length ≤ 1048576) : ∃ n, spec_DrawNumBytes.f c = some n := by
  unfold spec_DrawNumBytes.f
  obtain ⟨s, e, c0⟩ := open_some h hl
  rw [e, Option.bind_some]
  obtain ⟨x1, a1, s1, e1, c1, _⟩ := raw_some c0 (by omega)
  rw [e1, Option.bind_some]
  obtain ⟨x2, a2, s2, e2, c2, _⟩ := pick_some c1 (by omega) 300 (by omega)
  rw [e2, Option.bind_some]
  obtain ⟨x3, a3, s3, e3, c3, _⟩ := pick_some c2 (by omega) 3 (by omega)
  rw [e3, Option.bind_some]
  simp only [Option.bind_some]
  obtain ⟨x4, a4, s4, e4, c4, y0, y1, _⟩ := pick_some c3 (by omega) 5 (by omega)
  have y1 := y1 (by omega)
  rw [e4, Option.bind_some, if_pos y0, if_pos (by simp; omega)]
  exact ⟨_, rfl⟩
theorem wraps_u8' (n : Int) (h₀ : 0 ≤ n) (h₁ : n < 2 ^ 8) : IntKind.u8.wrap n = n := by rw [IntKind.wrap_u8]; omega
theorem and127 (b : Int) (h0 : 0 ≤ b) (h1 : b ≤ 255) : Go.bits .and .u8 b 127 = b % 128 := bits_mask .u8 8 (by decide) wraps_u8' 7 (by decide) b h0 (by omega)
theorem shl_at (x : Int) (s : Nat) (h0 : 0 ≤ x) (h1 : x ≤ 127) (hs : s = 0 ∨ s = 7 ∨ s = 14) : shl .i64 x (s : Int) = x * 2 ^ s := by
  unfold shl
  rcases hs with rfl | rfl | rfl
  · simp [IntKind.wrap_i64, IntKind.bits]; omega
  · simp [IntKind.wrap_i64, IntKind.bits]; omega
  · simp [IntKind.wrap_i64, IntKind.bits]; omega
theorem or_at (x y : Int) (s : Nat) (hs : s = 0 ∨ s = 7 ∨ s = 14) (h0 : 0 ≤ x) (h1 : x < 2 ^ s) (y0 : 0 ≤ y) (y1 : y ≤ 127) : Go.bits .or .i64 x (y * 2 ^ s) = x + y * 2 ^ s := by
  rw [or_comm']
  rcases hs with rfl | rfl | rfl
  · rw [bits_join .i64 62 (by decide) wraps_i64 0 _ _ (by omega) (by omega) (by omega) (by omega) (by omega) (by omega)]; omega
  · rw [bits_join .i64 62 (by decide) wraps_i64 7 _ _ (by omega) (by omega) (by omega) (by omega) (by omega) (by omega)]; omega
  · rw [bits_join .i64 62 (by decide) wraps_i64 14 _ _ (by omega) (by omega) (by omega) (by omega) (by omega) (by omega)]; omega
/-- A byte that is not the last. -/
theorem read_more (l : List Int) (x b : Int) (j : Nat) (hj : j < 2) (hx0 : 0 ≤ x) (hx : x < 2 ^ (7 * j)) (hi : 1 + j < l.length) (hl : l.length < 100) (hb : rd l (1 + j) = b) (b0 : 128 ≤ b) (b1 : b ≤ 255) (r : Int × Int × Bool)
    (h : E (fun k => impl_numRead.l0 k l 1 (x + b % 128 * 2 ^ (7 * j)) (1 + ((j + 1 : Nat) : Int))) r) : E (fun k => impl_numRead.l0 k l 1 x (1 + j)) r := by
  refine .step (fun _ => rfl) (.pos (by omega) (.step (fun _ => rfl) (.pos ?_ (.pos (by omega) (.pos (by omega) (.pos ?_ (.pos ?_ ?_)))))))
  · rw [wr (by omega) (by omega)]; simp; omega
  · rw [wr (x := 1 + (j : Int) - 1) (by omega) (by omega), wr (by omega) (by omega)]; omega
  · rw [hb]; omega
  · rw [hb, and127 b (by omega) b1, wr (x := b % 128) (by omega) (by omega), wr (x := 1 + (j : Int) - 1) (by omega) (by omega), wr (x := 7 * (1 + (j : Int) - 1)) (by omega) (by omega), wr (x := 1 + (j : Int) + 1) (by omega) (by omega),
      show 7 * (1 + (j : Int) - 1) = ((7 * j : Nat) : Int) by omega, shl_at _ _ (by omega) (by omega) (by omega), or_at _ _ _ (by omega) hx0 hx (by omega) (by omega), show 1 + (j : Int) + 1 = 1 + ((j + 1 : Nat) : Int) by omega]
    exact h
/-- The last byte. -/
theorem read_last (l : List Int) (x b : Int) (j : Nat) (hj : j < 3) (hx0 : 0 ≤ x) (hx : x < 2 ^ (7 * j)) (hi : 1 + j < l.length) (hl : l.length < 100) (hb : rd l (1 + j) = b) (b0 : 0 ≤ b) (b1 : b ≤ 127) (hn : x + b * 2 ^ (7 * j) ≤ 65535) (hz : 0 < j → b ≠ 0) :
    E (fun k => impl_numRead.l0 k l 1 x (1 + j)) (x + b * 2 ^ (7 * j), 1 + ((j + 1 : Nat) : Int), true) := by
  have e : Go.bits .or .i64 x (shl .i64 (wrap64 (Go.bits .and .u8 (rd l (1 + j)) 127)) (wrap64 (7 * (wrap64 (1 + (j : Int) - 1))))) = x + b * 2 ^ (7 * j) := by
    rw [hb, and127 b (by omega) (by omega), show b % 128 = b by omega, wr (x := b) (by omega) (by omega), wr (x := 1 + (j : Int) - 1) (by omega) (by omega), wr (x := 7 * (1 + (j : Int) - 1)) (by omega) (by omega),
      show 7 * (1 + (j : Int) - 1) = ((7 * j : Nat) : Int) by omega, shl_at _ _ (by omega) (by omega) (by omega), or_at _ _ _ (by omega) hx0 hx (by omega) (by omega)]
  have ew : wrap64 (1 + (j : Int) + 1) = 1 + ((j + 1 : Nat) : Int) := by rw [wr (by omega) (by omega)]; omega
  refine .step (fun _ => rfl) (.pos (by omega) (.step (fun _ => rfl) (.pos ?_ (.pos (by omega) (.pos (by omega) (.pos ?_ (.neg ?_ ?_)))))))
  · rw [wr (by omega) (by omega)]; simp; omega
  · rw [wr (x := 1 + (j : Int) - 1) (by omega) (by omega), wr (by omega) (by omega)]; omega
  · rw [hb]; omega
  · rw [e, ew]
    refine .neg (by omega) (.ite (fun _ => .neg (by rw [hb]; exact hz (by omega)) (.mk _)) (fun _ => .mk _))
theorem read_back (n : Int) (h0 : 0 ≤ n) (h1 : n ≤ 65535) : E (fun k => impl_NumRead.f k (([200] ++ numB n) ++ [9]) 1) (n, 1 + (numB n).length, true) := by
  have key : E (fun k => impl_numRead.l0 k (([200] ++ numB n) ++ [9]) 1 0 (1 + ((0 : Nat) : Int))) (n, 1 + (numB n).length, true) := by
    unfold numB
    by_cases a : n < 128
    · rw [if_pos a]
      have := read_last ([200] ++ [n] ++ [9]) 0 n 0 (by omega) (by omega) (by omega) (by simp) (by simp) (by simp [rd]) h0 (by omega) (by omega) (by omega)
      simpa using this
    · rw [if_neg a]
      by_cases b : n < 16384
      · rw [if_pos b]
        refine read_more _ 0 (128 + n % 128) 0 (by omega) (by omega) (by omega) (by simp) (by simp) (by simp [rd]) (by omega) (by omega) _ ?_
        have := read_last ([200] ++ [128 + n % 128, n / 128] ++ [9]) (0 + (128 + n % 128) % 128 * 2 ^ (7 * 0)) (n / 128) 1 (by omega) (by omega) (by omega) (by simp) (by simp) (by simp [rd]) (by omega) (by omega) (by omega) (by omega)
        rw [show 0 + (128 + n % 128) % 128 * 2 ^ (7 * 0) + n / 128 * 2 ^ (7 * 1) = n by omega] at this
        simpa using this
      · rw [if_neg b]
        refine read_more _ 0 (128 + n % 128) 0 (by omega) (by omega) (by omega) (by simp) (by simp) (by simp [rd]) (by omega) (by omega) _ ?_
        refine read_more _ _ (128 + n / 128 % 128) 1 (by omega) (by omega) (by omega) (by simp) (by simp) (by simp [rd]) (by omega) (by omega) _ ?_
        have := read_last ([200] ++ [128 + n % 128, 128 + n / 128 % 128, n / 16384] ++ [9]) (0 + (128 + n % 128) % 128 * 2 ^ (7 * 0) + (128 + n / 128 % 128) % 128 * 2 ^ (7 * 1)) (n / 16384) 2 (by omega) (by omega) (by omega) (by simp) (by simp) (by simp [rd]) (by omega) (by omega) (by omega) (by omega)
        rw [show 0 + (128 + n % 128) % 128 * 2 ^ (7 * 0) + (128 + n / 128 % 128) % 128 * 2 ^ (7 * 1) + n / 16384 * 2 ^ (7 * 2) = n by omega] at this
        simpa using this
  unfold impl_NumRead.f impl_numRead.f
  exact .bind (.neg (by omega) key) (.mk _)
theorem numB_le (n : Int) : 1 ≤ (numB n).length ∧ (numB n).length ≤ 3 := by
  unfold numB
  split
  · simp
  · split <;> simp
theorem FnNumBack : laws_FnNumBack.Pure := by
  intro c _ _ hw
  refine E.out (?_ : E (fun k => laws_FnNumBack.f k c) true)
  have hb : ∀ x ∈ c, 0 ≤ x ∧ x ≤ 255 := fun x hx => u8b (hw x hx)
  unfold laws_FnNumBack.f
  refine .bind (.of fun _ => big_ev c) (.ite (fun _ => .mk _) (fun g => ?_))
  have hl : c.length ≤ 1048576 := by simp at g; omega
  obtain ⟨n, hn⟩ := draw_some hb hl
  refine .bind (.of fun _ => hn) (.bind (impl_f n) (.bind (spec_f n) ?_))
  by_cases r : 0 ≤ n ∧ n ≤ 65535
  · rw [if_pos r]
    have hle := numB_le n
    refine .neg (by omega) (.bind (.mk _) (.pos (by simp; omega) (.bind (.mk _) (.pos (by simp; omega) (.bind (read_back n r.1 r.2) (.pos rfl (.pos rfl (.pos ?_ (.of fun _ => ?_)))))))))
    · rw [wr (by omega) (by omega)]
    · simp; omega
  · rw [if_neg r]
    exact .pos (by simp) (.of fun _ => rfl)
end Go.Proofs.Ytcfbhhbfnckhpaa.Pure
