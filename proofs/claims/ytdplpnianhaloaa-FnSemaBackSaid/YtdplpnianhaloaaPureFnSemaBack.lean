/- FnSemaBack: over numbers and lists alone: whatever semaphore and word are drawn, a valid semaphore is recovered from its word and a word that is read is packed again. No condition. -/
import Derived.Test.YtdplpnianhaloaaQFnSemaBack
import Derived.Test.YtdplpnianhaloaaPK
set_option linter.unusedVariables false
set_option linter.unusedSimpArgs false
namespace Go.Proofs.Ytdplpnianhaloaa.Pure
open Go.RowKit Go.Proofs.Ytdplpnianhaloaa.PFnSemaBack Go.Proofs.YtdplpnianhaloaaW.PrintWords Go.Proofs.YtdplpnianhaloaaW.PrintLast Go.Proofs.YtdplpnianhaloaaW.PrintMore
open Go.Proofs.Ytdplpnianhaloaa.PK (wr i64b u32b u8b tmod_pos tdiv_pos or_comm')
open Go.Proofs.Ytdplpnianhaloaa.PK renaming Ev → E
def okB (a b c : Int) : Bool := decide (0 ≤ a ∧ a ≤ 1000 ∧ 0 ≤ b ∧ b ≤ 1000 ∧ 0 ≤ c ∧ c ≤ 1000 ∧ c ≤ a + b)
theorem okB_t {a b c : Int} : okB a b c = true ↔ 0 ≤ a ∧ a ≤ 1000 ∧ 0 ≤ b ∧ b ≤ 1000 ∧ 0 ≤ c ∧ c ≤ 1000 ∧ c ≤ a + b := by simp [okB]
theorem num_eq (a : Int) : spec_l11Num.f a = some (decide (0 ≤ a ∧ a ≤ 1000)) := by
  unfold spec_l11Num.f
  by_cases h : a ≥ 0
  · have : 0 ≤ a := h
    simp [this]
  · have : ¬ 0 ≤ a := h
    simp [this]
theorem ok_eq (a b c : Int) : spec_SemaOk.f a b c = some (okB a b c) := by
  unfold spec_SemaOk.f
  simp only [num_eq, Option.bind_some, decide_eq_true_eq]
  by_cases h1 : 0 ≤ a ∧ a ≤ 1000
  · by_cases h2 : 0 ≤ b ∧ b ≤ 1000
    · by_cases h3 : 0 ≤ c ∧ c ≤ 1000
      · rw [if_pos h1, if_pos h2, if_pos h3, wr (by omega) (by omega), Option.some.injEq, Bool.eq_iff_iff, okB_t, decide_eq_true_eq]
        omega
      · rw [if_pos h1, if_pos h2, if_neg h3, Option.some.injEq, Bool.eq_iff_iff, okB_t]
        simp only [Bool.false_eq_true, false_iff]
        omega
    · rw [if_pos h1, if_neg h2, Option.some.injEq, Bool.eq_iff_iff, okB_t]
      simp only [Bool.false_eq_true, false_iff]
      omega
  · rw [if_neg h1, Option.some.injEq, Bool.eq_iff_iff, okB_t]
    simp only [Bool.false_eq_true, false_iff]
    omega
theorem within_eq (a b c : Int) : impl_within.f a b c = some (decide (b ≤ a ∧ a ≤ c)) := by
  unfold impl_within.f
  by_cases h : a ≥ b
  · have : b ≤ a := h
    simp [this]
  · have : ¬ b ≤ a := h
    simp [this]
theorem is_eq (a b c : Int) : impl_isSema.f a b c = some (okB a b c) := by
  rw [← ok_eq]
  unfold impl_isSema.f spec_SemaOk.f
  simp only [num_eq, within_eq]
theorem wraps_i64 (n : Int) (h₀ : 0 ≤ n) (h₁ : n < 2 ^ 62) : IntKind.i64.wrap n = n := by rw [IntKind.wrap_i64]; omega
theorem or_pack (a b c : Int) (h : 0 ≤ a ∧ a ≤ 1000 ∧ 0 ≤ b ∧ b ≤ 1000 ∧ 0 ≤ c ∧ c ≤ 1000 ∧ c ≤ a + b) :
    Go.bits .or .i64 (Go.bits .or .i64 a (wrap64 (b * 1024))) (wrap64 (c * 1048576)) = a + 1024 * b + 1048576 * c := by
  rw [wr (x := b * 1024) (by omega) (by omega), wr (x := c * 1048576) (by omega) (by omega)]
  have e1 : Go.bits .or .i64 a (b * 1024) = b * 1024 + a := by
    rw [or_comm']
    exact bits_join .i64 62 (by decide) wraps_i64 10 _ _ (by omega) (by omega) (by omega) (by omega) (by omega) (by omega)
  rw [e1]
  have e2 : Go.bits .or .i64 (b * 1024 + a) (c * 1048576) = c * 1048576 + (b * 1024 + a) := by
    rw [or_comm']
    exact bits_join .i64 62 (by decide) wraps_i64 20 _ _ (by omega) (by omega) (by omega) (by omega) (by omega) (by omega)
  rw [e2]
  omega
theorem wraps_u32 (n : Int) (h₀ : 0 ≤ n) (h₁ : n < 2 ^ 32) : IntKind.u32.wrap n = n := by rw [IntKind.wrap_u32]; omega
theorem mask10 (x : Int) (h0 : 0 ≤ x) (h1 : x ≤ 4294967295) : Go.bits .and .u32 x 1023 = x % 1024 :=
  bits_mask .u32 32 (by decide) wraps_u32 10 (by decide) x h0 (by omega)
theorem read_spec (x : Int) (h0 : 0 ≤ x) (h1 : x ≤ 4294967295) : spec_SemaRead.f x = if okB (x % 1024) (x / 1024 % 1024) (x / 1048576) = true then some (x % 1024, x / 1024 % 1024, x / 1048576, true) else some (0, 0, 0, false) := by
  unfold spec_SemaRead.f
  rw [wr (x := x) (by omega) (by omega)]
  rw [tdiv_pos x 1024 h0, tdiv_pos x 1048576 h0, tmod_pos x 1024 h0, wr (x := x / 1024) (by omega) (by omega), wr (x := x / 1048576) (by omega) (by omega), tmod_pos (x / 1024) 1024 (by omega), ok_eq]
  rfl
theorem read_impl (x : Int) (h0 : 0 ≤ x) (h1 : x ≤ 4294967295) : impl_SemaRead.f x = if okB (x % 1024) (x / 1024 % 1024) (x / 1048576) = true then some (x % 1024, x / 1024 % 1024, x / 1048576, true) else some (0, 0, 0, false) := by
  unfold impl_SemaRead.f
  rw [mask10 x h0 h1, mask10 (x / 1024) (by omega) (by omega), wr (x := x % 1024) (by omega) (by omega), wr (x := x / 1024 % 1024) (by omega) (by omega), wr (x := x / 1048576) (by omega) (by omega), is_eq]
  rfl
/-- A reader of draws, in its bounds: 'm' draws at most have been made. -/
def Cur (c : List Int) (a s : Int) (m : Nat) : Prop := (∀ x ∈ c, 0 ≤ x ∧ x ≤ 255) ∧ c.length ≤ 1048576 ∧ 0 ≤ a ∧ a ≤ m ∧ 0 ≤ s ∧ s < 65521
theorem rd_byte {c : List Int} (h : ∀ x ∈ c, 0 ≤ x ∧ x ≤ 255) (i : Int) : 0 ≤ rd c i ∧ rd c i ≤ 255 := by
  unfold rd
  rw [List.getD_eq_getElem?_getD]
  by_cases k : i.toNat < c.length
  · rw [List.getElem?_eq_getElem k]
    exact h _ (List.getElem_mem k)
  · rw [List.getElem?_eq_none (by omega)]
    simp
theorem Cur.more {c : List Int} {a s : Int} {m n : Nat} (h : Cur c a s m) (hn : m ≤ n) : Cur c a s n := ⟨h.1, h.2.1, h.2.2.1, by have := h.2.2.2.1; omega, h.2.2.2.2⟩
theorem pick_some {c : List Int} {a s : Int} {m : Nat} (h : Cur c a s m) (hm : m ≤ 1000000000) (n : Int) (hn : n ≤ 1000000000) :
    ∃ x a' s', spec_l01Cur_pick.f c a s n = some (x, a', s') ∧ Cur c a' s' (m + 1) ∧ 0 ≤ x ∧ (2 ≤ n → x < n) ∧ (n < 2 → x = 0) := by
  obtain ⟨h1, h2, h3, h4, h5, h6⟩ := h
  unfold spec_l01Cur_pick.f
  by_cases b : n < 2
  · rw [if_pos b]
    exact ⟨0, a, s, rfl, ⟨h1, h2, h3, by omega, h5, h6⟩, by omega, fun _ => by omega, fun _ => rfl⟩
  · have hp : 0 < n := by omega
    rw [if_neg b]
    have es : Int.tmod (wrap64 ((wrap64 (s * 1103)) + 12345)) 65521 = (s * 1103 + 12345) % 65521 := by
      rw [wr (x := s * 1103) (by omega) (by omega), wr (x := s * 1103 + 12345) (by omega) (by omega), tmod_pos _ _ (by omega)]
    have hs0 : 0 ≤ (s * 1103 + 12345) % 65521 := by omega
    have hs1 : (s * 1103 + 12345) % 65521 < 65521 := by omega
    rw [es, wr (x := a + 1) (by omega) (by omega)]
    generalize (s * 1103 + 12345) % 65521 = t at hs0 hs1
    by_cases k : a < (c.length : Int)
    · rw [if_pos k, if_pos h3, if_neg (by omega)]
      have hb := rd_byte h1 a
      rw [wr (x := rd c a) (by omega) (by omega), tmod_pos _ _ hb.1]
      exact ⟨_, _, _, rfl, ⟨h1, h2, by omega, by omega, h5, h6⟩, Int.emod_nonneg _ (by omega), fun _ => Int.emod_lt_of_pos _ hp, fun _ => by omega⟩
    · rw [if_neg k]
      by_cases e : (c.length : Int) > 0
      · rw [if_pos e, if_neg (by omega), tmod_pos _ _ h3, if_pos (Int.emod_nonneg _ (by omega)), if_pos (Int.emod_lt_of_pos _ e), if_neg (by omega)]
        have hb := rd_byte h1 (a % (c.length : Int))
        rw [tdiv_pos _ _ hs0, wr (x := t / 7) (by omega) (by omega), wr (x := rd c (a % (c.length : Int))) (by omega) (by omega), wr (x := t / 7 + rd c (a % (c.length : Int))) (by omega) (by omega), tmod_pos _ _ (by omega)]
        exact ⟨_, _, _, rfl, ⟨h1, h2, by omega, by omega, hs0, hs1⟩, Int.emod_nonneg _ (by omega), fun _ => Int.emod_lt_of_pos _ hp, fun _ => by omega⟩
      · rw [if_neg e, if_neg (by omega)]
        exact ⟨_, _, _, rfl, ⟨h1, h2, by omega, by omega, hs0, hs1⟩, Int.emod_nonneg _ (by omega), fun _ => Int.emod_lt_of_pos _ hp, fun _ => by omega⟩
theorem open_some {c : List Int} (h : ∀ x ∈ c, 0 ≤ x ∧ x ≤ 255) (hl : c.length ≤ 1048576) : ∃ s, spec_l01Open.f c = some (c, 0, s) ∧ Cur c 0 s 0 :=
  ⟨_, rfl, h, hl, by omega, by omega, by omega, by omega⟩
theorem big_ev (c : List Int) : laws_big.f c = some (decide (1048576 < (c.length : Int))) := rfl
theorem raw_some {c : List Int} {a s : Int} {m : Nat} (h : Cur c a s m) (hm : m ≤ 1000000) :
    ∃ x a' s', spec_l01Cur_raw.f c a s = some (x, a', s') ∧ Cur c a' s' (m + 2) ∧ -9223372036854775808 ≤ x ∧ x ≤ 9223372036854775807 := by
  unfold spec_l01Cur_raw.f
  obtain ⟨x, a1, s1, e1, c1, x0, x1, _⟩ := pick_some h (by omega) 8 (by omega)
  rw [e1, Option.bind_some]
  by_cases b : x = 0
  · rw [if_pos b]
    obtain ⟨y, a2, s2, e2, c2, y0, y1, _⟩ := pick_some c1 (by omega) 256 (by omega)
    rw [e2, Option.bind_some]
    have := y1 (by omega)
    exact ⟨_, _, _, rfl, c2, by rw [wr (by omega) (by omega)]; omega, by rw [wr (by omega) (by omega)]; omega⟩
  · rw [if_neg b]
    by_cases b : x = 1
    · rw [if_pos b]
      simp only [Option.bind_some]
      obtain ⟨y, a2, s2, e2, c2, y0, y1, _⟩ := pick_some c1 (by omega) 8 (by omega)
      have y1 := y1 (by omega)
      rw [e2, Option.bind_some, if_pos y0, if_pos (by simp; omega)]
      refine ⟨_, _, _, rfl, c2, ?_⟩
      have : y = 0 ∨ y = 1 ∨ y = 2 ∨ y = 3 ∨ y = 4 ∨ y = 5 ∨ y = 6 ∨ y = 7 := by omega
      rcases this with rfl | rfl | rfl | rfl | rfl | rfl | rfl | rfl <;> simp [rd]
    · rw [if_neg b]
      obtain ⟨y, a2, s2, e2, c2, y0, y1, _⟩ := pick_some c1 (by omega) 14 (by omega)
      rw [e2, Option.bind_some]
      have := y1 (by omega)
      exact ⟨_, _, _, rfl, c2, by rw [wr (by omega) (by omega)]; omega, by rw [wr (by omega) (by omega)]; omega⟩
theorem once_some {c : List Int} {a s : Int} {m : Nat} (h : Cur c a s m) (hm : m ≤ 1000000) (n : Int) (hn : n ≤ 1000000) : ∃ b a' s', spec_l01Cur_once.f c a s n = some (b, a', s') ∧ Cur c a' s' (m + 1) := by
  unfold spec_l01Cur_once.f
  obtain ⟨x, a1, s1, e1, c1, _⟩ := pick_some h (by omega) n (by omega)
  rw [e1, Option.bind_some]
  exact ⟨_, _, _, rfl, c1⟩
theorem wide_some {c : List Int} {a s : Int} {m : Nat} (h : Cur c a s m) (hm : m ≤ 1000000) (n : Int) (h0 : 0 < n) :
    ∃ x a' s', spec_l01Cur_wide.f c a s n = some (x, a', s') ∧ Cur c a' s' (m + 3) ∧ 0 ≤ x ∧ x < n := by
  unfold spec_l01Cur_wide.f
  obtain ⟨x, a1, s1, e1, c1, x0, x1, _⟩ := pick_some h (by omega) 256 (by omega)
  have x1 := x1 (by omega)
  rw [e1, Option.bind_some]
  obtain ⟨y, a2, s2, e2, c2, y0, y1, _⟩ := pick_some c1 (by omega) 256 (by omega)
  have y1 := y1 (by omega)
  rw [e2, Option.bind_some]
  obtain ⟨z, a3, s3, e3, c3, z0, z1, _⟩ := pick_some c2 (by omega) 256 (by omega)
  have z1 := z1 (by omega)
  rw [e3, Option.bind_some, if_neg (by omega)]
  dsimp only
  rw [wr (x := 65536 * x) (by omega) (by omega), wr (x := 256 * y) (by omega) (by omega), wr (x := 65536 * x + 256 * y) (by omega) (by omega), wr (x := 65536 * x + 256 * y + z) (by omega) (by omega), tmod_pos _ _ (by omega)]
  exact ⟨_, _, _, rfl, c3, Int.emod_nonneg _ (by omega), Int.emod_lt_of_pos _ h0⟩
theorem word_some {c : List Int} {a s : Int} {m : Nat} (h : Cur c a s m) (hm : m ≤ 100000) :
    ∃ x a' s', spec_l01Cur_word.f c a s = some (x, a', s') ∧ Cur c a' s' (m + 5) ∧ 0 ≤ x ∧ x ≤ 4294967295 := by
  unfold spec_l01Cur_word.f
  obtain ⟨x, a1, s1, e1, c1, x0, x1, _⟩ := pick_some h (by omega) 256 (by omega)
  rw [e1, Option.bind_some]
  obtain ⟨y, a2, s2, e2, c2, y0, y1⟩ := wide_some c1 (by omega) 16777216 (by omega)
  rw [e2, Option.bind_some, Option.bind_some]
  obtain ⟨i, a3, s3, e3, c3, i0, i1, _⟩ := pick_some c2 (by omega) 7 (by omega)
  have i1 := i1 (by omega)
  rw [e3, Option.bind_some, if_pos i0, if_pos (by simp; omega)]
  refine ⟨_, _, _, rfl, c3, ?_⟩
  have : i = 0 ∨ i = 1 ∨ i = 2 ∨ i = 3 ∨ i = 4 ∨ i = 5 ∨ i = 6 := by omega
  rcases this with rfl | rfl | rfl | rfl | rfl | rfl | rfl <;> simp [rd] <;> omega
theorem three_some {c : List Int} {a s : Int} {m : Nat} (h : Cur c a s m) (hm : m ≤ 1000) (x : Int) : ∃ i a' s', spec_l01Cur_pick.f c a s 3 = some (i, a', s') ∧ Cur c a' s' (m + 1) ∧ 0 ≤ i ∧ i < (([x, 1000, 1001] : List Int).length : Int) := by
  obtain ⟨i, a1, s1, e1, c1, x0, x1, _⟩ := pick_some h (by omega) 3 (by omega)
  exact ⟨i, a1, s1, e1, c1, x0, by have := x1 (by omega); simp; omega⟩
theorem rd3 {x i : Int} (hx : -9223372036854775808 ≤ x ∧ x ≤ 9223372036854775807) (h0 : 0 ≤ i) (h1 : i < (([x, 1000, 1001] : List Int).length : Int)) : -9223372036854775808 ≤ rd [x, 1000, 1001] i ∧ rd [x, 1000, 1001] i ≤ 9223372036854775807 := by
  have : i = 0 ∨ i = 1 ∨ i = 2 := by simp at h1; omega
  rcases this with rfl | rfl | rfl <;> simp [rd] <;> omega
def In64 (x : Int) : Prop := -9223372036854775808 ≤ x ∧ x ≤ 9223372036854775807
theorem sema_some {c : List Int} {a s : Int} {m : Nat} (h : Cur c a s m) (hm : m ≤ 100) :
    ∃ x y z a' s', spec_l01Cur_sema.f c a s = some (x, y, z, a', s') ∧ Cur c a' s' (m + 7) ∧ In64 x ∧ In64 y ∧ In64 z := by
  unfold spec_l01Cur_sema.f
  obtain ⟨x, a1, s1, e1, c1, x0, x1, _⟩ := pick_some h (by omega) 12 (by omega)
  have x1 := x1 (by omega)
  rw [e1, Option.bind_some]
  obtain ⟨y, a2, s2, e2, c2, y0, y1, _⟩ := pick_some c1 (by omega) 12 (by omega)
  have y1 := y1 (by omega)
  rw [e2, Option.bind_some]
  have ew : wrap64 ((wrap64 (x + y)) + 1) = x + y + 1 := by rw [wr (x := x + y) (by omega) (by omega), wr (by omega) (by omega)]
  obtain ⟨z, a3, s3, e3, c3, z0, z1, z2⟩ := pick_some c2 (by omega) (x + y + 1) (by omega)
  have hz : z ≤ 100 := by
    by_cases b : 2 ≤ x + y + 1
    · have := z1 b; omega
    · have := z2 (by omega); omega
  rw [ew, e3, Option.bind_some]
  obtain ⟨k, a4, s4, e4, c4, k0, k1, _⟩ := pick_some c3 (by omega) 12 (by omega)
  rw [e4, Option.bind_some]
  have ix : In64 x := ⟨by omega, by omega⟩
  have iy : In64 y := ⟨by omega, by omega⟩
  have iz : In64 z := ⟨by omega, by omega⟩
  dsimp only
  by_cases b0 : k = 0
  · rw [if_pos b0]
    obtain ⟨w, a5, s5, e5, c5, w0, w1⟩ := raw_some c4 (by omega)
    rw [e5, Option.bind_some, Option.bind_some]
    obtain ⟨i, a6, s6, e6, c6, i0, i1⟩ := three_some c5 (by omega) w
    rw [e6, Option.bind_some, if_pos i0, if_pos i1]
    exact ⟨_, _, _, _, _, rfl, c6, rd3 ⟨w0, w1⟩ i0 i1, iy, iz⟩
  · rw [if_neg b0]
    by_cases b1 : k = 1
    · rw [if_pos b1]
      obtain ⟨w, a5, s5, e5, c5, w0, w1⟩ := raw_some c4 (by omega)
      rw [e5, Option.bind_some, Option.bind_some]
      obtain ⟨i, a6, s6, e6, c6, i0, i1⟩ := three_some c5 (by omega) w
      rw [e6, Option.bind_some, if_pos i0, if_pos i1]
      exact ⟨_, _, _, _, _, rfl, c6, ix, rd3 ⟨w0, w1⟩ i0 i1, iz⟩
    · rw [if_neg b1]
      by_cases b2 : k = 2
      · rw [if_pos b2]
        obtain ⟨w, a5, s5, e5, c5, w0, w1⟩ := raw_some c4 (by omega)
        rw [e5, Option.bind_some, Option.bind_some]
        obtain ⟨i, a6, s6, e6, c6, i0, i1, _⟩ := pick_some c5 (by omega) 2 (by omega)
        have i1 := i1 (by omega)
        rw [e6, Option.bind_some, if_pos i0, if_pos (by simp; omega)]
        refine ⟨_, _, _, _, _, rfl, c6, ix, iy, ?_⟩
        have ew : wrap64 (z + 5) = z + 5 := wr (by omega) (by omega)
        have : i = 0 ∨ i = 1 := by omega
        rcases this with rfl | rfl <;> simp [rd, ew] <;> exact ⟨by omega, by omega⟩
      · rw [if_neg b2]
        exact ⟨_, _, _, _, _, rfl, c4.more (by omega), ix, iy, iz⟩
theorem pack_impl (a b c : Int) : impl_SemaPack.f a b c = if okB a b c = true then some (a + 1024 * b + 1048576 * c, true) else some (0, false) := by
  unfold impl_SemaPack.f
  rw [is_eq]
  by_cases h : okB a b c = true
  · have h' := okB_t.1 h
    simp only [Option.bind_some, h, if_true]
    rw [or_pack a b c h', show (a + 1024 * b + 1048576 * c) % 4294967296 = a + 1024 * b + 1048576 * c by omega]
  · simp [h]
theorem pack_spec (a b c : Int) : spec_SemaPack.f a b c = if okB a b c = true then some (a + 1024 * b + 1048576 * c, true) else some (0, false) := by
  unfold spec_SemaPack.f
  rw [ok_eq]
  by_cases h : okB a b c = true
  · have h' := okB_t.1 h
    simp only [Option.bind_some, h, if_true]
    rw [wr (x := 1024 * b) (by omega) (by omega), wr (x := 1048576 * c) (by omega) (by omega), wr (x := a + 1024 * b) (by omega) (by omega), wr (x := a + 1024 * b + 1048576 * c) (by omega) (by omega), show (a + 1024 * b + 1048576 * c) % 4294967296 = a + 1024 * b + 1048576 * c by omega]
  · simp [h]
theorem pack_range (a b c : Int) : ∃ x t, spec_SemaPack.f a b c = some (x, t) ∧ 0 ≤ x ∧ x ≤ 4294967295 := by
  rw [pack_spec]
  by_cases h : okB a b c = true
  · have h' := okB_t.1 h
    exact ⟨_, _, by rw [if_pos h], by omega, by omega⟩
  · exact ⟨_, _, by rw [if_neg h], by omega, by omega⟩
theorem left_impl (a b c : Int) (h : okB a b c = true) : ∃ x, impl_SemaLeft.f a b c = some x ∧ 0 ≤ x := by
  unfold impl_SemaLeft.f
  have h' := okB_t.1 h
  rw [is_eq, Option.bind_some, if_pos h, wr (x := a + b) (by omega) (by omega), wr (by omega) (by omega)]
  exact ⟨_, rfl, by omega⟩
theorem drawp_some {c : List Int} (h : ∀ x ∈ c, 0 ≤ x ∧ x ≤ 255) (hl : c.length ≤ 1048576) : ∃ x y z, spec_DrawSemaPack.f c = some (x, y, z) := by
  unfold spec_DrawSemaPack.f
  obtain ⟨s, e, c0⟩ := open_some h hl
  rw [e, Option.bind_some]
  obtain ⟨x, y, z, a1, s1, e1, c1, _⟩ := sema_some c0 (by omega)
  rw [e1, Option.bind_some]
  exact ⟨_, _, _, rfl⟩
theorem drawr_some {c : List Int} (h : ∀ x ∈ c, 0 ≤ x ∧ x ≤ 255) (hl : c.length ≤ 1048576) : ∃ x, spec_DrawSemaRead.f c = some x ∧ 0 ≤ x ∧ x ≤ 4294967295 := by
  unfold spec_DrawSemaRead.f
  obtain ⟨s, e, c0⟩ := open_some h hl
  rw [e, Option.bind_some]
  obtain ⟨x, y, z, a1, s1, e1, c1, _⟩ := sema_some c0 (by omega)
  rw [e1, Option.bind_some]
  dsimp only
  obtain ⟨p, t, e2, p0, p1⟩ := pack_range x y z
  rw [e2, Option.bind_some]
  obtain ⟨o, a3, s3, e3, c3⟩ := once_some c1 (by omega) 3 (by omega)
  rw [e3, Option.bind_some]
  by_cases b : o = true
  · rw [if_pos b]
    obtain ⟨w, a4, s4, e4, c4, w0, w1⟩ := word_some c3 (by omega)
    rw [e4, Option.bind_some]
    exact ⟨_, rfl, w0, w1⟩
  · rw [if_neg b]
    exact ⟨_, rfl, p0, p1⟩
theorem second {c : List Int} (h : ∀ x ∈ c, 0 ≤ x ∧ x ≤ 255) (hl : c.length ≤ 1048576) : E (fun k => laws_FnSemaBack.j0 k c) true := by
  refine .step (fun _ => rfl) ?_
  obtain ⟨x, e, x0, x1⟩ := drawr_some h hl
  refine .of fun _ => ?_
  simp only [laws_FnSemaBack.j0]
  rw [e, Option.bind_some, read_impl x x0 x1, read_spec x x0 x1]
  by_cases k : okB (x % 1024) (x / 1024 % 1024) (x / 1048576) = true
  · rw [if_pos k]
    simp only [Option.bind_some]
    rw [pack_impl, if_pos k]
    simp
    omega
  · rw [if_neg k]
    simp
theorem FnSemaBack : laws_FnSemaBack.Pure := by
  intro c _ _ hw
  refine E.out (?_ : E (fun k => laws_FnSemaBack.f k c) true)
  have hb : ∀ x ∈ c, 0 ≤ x ∧ x ≤ 255 := fun x hx => u8b (hw x hx)
  unfold laws_FnSemaBack.f
  refine .bind (.of fun _ => big_ev c) (.ite (fun _ => .mk _) (fun g => ?_))
  have hl : c.length ≤ 1048576 := by simp at g; omega
  obtain ⟨x, y, z, e⟩ := drawp_some hb hl
  refine .bind (.of fun _ => e) ?_
  dsimp only
  have h2 := second hb hl
  by_cases k : okB x y z = true
  · have h' := okB_t.1 k
    refine .bind (.of fun _ => by rw [pack_impl, if_pos k]) (.bind (.of fun _ => by rw [ok_eq, k]) (.neg (by simp) (.pos rfl ?_)))
    have d1 : (x + 1024 * y + 1048576 * z) % 1024 = x := by omega
    have d2 : (x + 1024 * y + 1048576 * z) / 1024 % 1024 = y := by omega
    have d3 : (x + 1024 * y + 1048576 * z) / 1048576 = z := by omega
    refine .bind (x := (x, y, z, true)) (.of fun _ => by rw [read_impl _ (by omega) (by omega), d1, d2, d3, if_pos k]) (.pos rfl (.neg (by simp) ?_))
    obtain ⟨l, el, l0⟩ := left_impl x y z k
    exact .bind (.of fun _ => el) (.neg (by omega) h2)
  · have k' : okB x y z = false := by simpa using k
    refine .bind (.of fun _ => by rw [pack_impl, if_neg k]) (.bind (.of fun _ => by rw [ok_eq, k']) (.neg (by simp) (.neg (by simp) h2)))
end Go.Proofs.Ytdplpnianhaloaa.Pure
