/- FnSemaPost: over numbers and lists alone: whatever semaphore and number are drawn, arrived units increase the count and keep all covered, and a reservation is served after its units arrived. No condition. -/
import Derived.Test.YtdplpnianhaloaaPFnSemaPostx4
import Derived.Test.YtdplpnianhaloaaPK
set_option linter.unusedVariables false
set_option linter.unusedSimpArgs false
namespace Go.Proofs.Ytdplpnianhaloaa.Pure
open Go.RowKit Go.Proofs.Ytdplpnianhaloaa.PFnSemaPost Go.Proofs.YtdplpnianhaloaaW.PrintWords Go.Proofs.YtdplpnianhaloaaW.PrintLast Go.Proofs.YtdplpnianhaloaaW.PrintMore
open Go.Proofs.Ytdplpnianhaloaa.PK (wr i64b u32b u8b tmod_pos tdiv_pos or_comm')
open Go.Proofs.Ytdplpnianhaloaa.PK renaming Ev → E
def okB (a b c : Int) : Bool := decide (0 ≤ a ∧ a ≤ 1000 ∧ 0 ≤ b ∧ b ≤ 1000 ∧ 0 ≤ c ∧ c ≤ 1000 ∧ c ≤ a + b)
theorem okB_t {a b c : Int} : okB a b c = true ↔ 0 ≤ a ∧ a ≤ 1000 ∧ 0 ≤ b ∧ b ≤ 1000 ∧ 0 ≤ c ∧ c ≤ 1000 ∧ c ≤ a + b := by simp [okB]
theorem num_eq (a : Int) : spec_l11Num.f a = some (decide (0 ≤ a ∧ a ≤ 1000)) := by
  unfold spec_l11Num.f
  by_cases h : a ≥ 0
  · have : 0 ≤ a := h
    simp [this]
  · have : ¬ 0 ≤ a := h
    simp [this]
theorem ok_eq (a b c : Int) : spec_SemaOk.f a b c = some (okB a b c) := by
  unfold spec_SemaOk.f
  simp only [num_eq, Option.bind_some, decide_eq_true_eq]
  by_cases h1 : 0 ≤ a ∧ a ≤ 1000
  · by_cases h2 : 0 ≤ b ∧ b ≤ 1000
    · by_cases h3 : 0 ≤ c ∧ c ≤ 1000
      · rw [if_pos h1, if_pos h2, if_pos h3, wr (by omega) (by omega), Option.some.injEq, Bool.eq_iff_iff, okB_t, decide_eq_true_eq]
        omega
      · rw [if_pos h1, if_pos h2, if_neg h3, Option.some.injEq, Bool.eq_iff_iff, okB_t]
        simp only [Bool.false_eq_true, false_iff]
        omega
    · rw [if_pos h1, if_neg h2, Option.some.injEq, Bool.eq_iff_iff, okB_t]
      simp only [Bool.false_eq_true, false_iff]
      omega
  · rw [if_neg h1, Option.some.injEq, Bool.eq_iff_iff, okB_t]
    simp only [Bool.false_eq_true, false_iff]
    omega
theorem within_eq (a b c : Int) : impl_within.f a b c = some (decide (b ≤ a ∧ a ≤ c)) := by
  unfold impl_within.f
  by_cases h : a ≥ b
  · have : b ≤ a := h
    simp [this]
  · have : ¬ b ≤ a := h
    simp [this]
theorem is_eq (a b c : Int) : impl_isSema.f a b c = some (okB a b c) := by
  rw [← ok_eq]
  unfold impl_isSema.f spec_SemaOk.f
  simp only [num_eq, within_eq]
theorem one_eq (a : Int) : spec_l11One.f a = some (decide (1 ≤ a ∧ a ≤ 1000)) := by
  unfold spec_l11One.f
  by_cases h : a ≥ 1
  · have : 1 ≤ a := h
    simp [this]
  · have : ¬ 1 ≤ a := h
    simp [this]
theorem checked_eq (a b c : Int) : impl_checkedSema.f a b c = if okB a b c = true then some (a, b, c, true) else some (0, 0, 0, false) := by
  unfold impl_checkedSema.f
  rw [is_eq]
  rfl
/-- A reader of draws, in its bounds: 'm' draws at most have been made. -/
def Cur (c : List Int) (a s : Int) (m : Nat) : Prop := (∀ x ∈ c, 0 ≤ x ∧ x ≤ 255) ∧ c.length ≤ 1048576 ∧ 0 ≤ a ∧ a ≤ m ∧ 0 ≤ s ∧ s < 65521
theorem rd_byte {c : List Int} (h : ∀ x ∈ c, 0 ≤ x ∧ x ≤ 255) (i : Int) : 0 ≤ rd c i ∧ rd c i ≤ 255 := by
  unfold rd
  rw [List.getD_eq_getElem?_getD]
  by_cases k : i.toNat < c.length
  · rw [List.getElem?_eq_getElem k]
    exact h _ (List.getElem_mem k)
  · rw [List.getElem?_eq_none (by omega)]
    simp
theorem Cur.more {c : List Int} {a s : Int} {m n : Nat} (h : Cur c a s m) (hn : m ≤ n) : Cur c a s n := ⟨h.1, h.2.1, h.2.2.1, by have := h.2.2.2.1; omega, h.2.2.2.2⟩
theorem pick_some {c : List Int} {a s : Int} {m : Nat} (h : Cur c a s m) (hm : m ≤ 1000000000) (n : Int) (hn : n ≤ 1000000000) :
    ∃ x a' s', spec_l01Cur_pick.f c a s n = some (x, a', s') ∧ Cur c a' s' (m + 1) ∧ 0 ≤ x ∧ (2 ≤ n → x < n) ∧ (n < 2 → x = 0) := by
  obtain ⟨h1, h2, h3, h4, h5, h6⟩ := h
  unfold spec_l01Cur_pick.f
  by_cases b : n < 2
  · rw [if_pos b]
    exact ⟨0, a, s, rfl, ⟨h1, h2, h3, by omega, h5, h6⟩, by omega, fun _ => by omega, fun _ => rfl⟩
  · have hp : 0 < n := by omega
    rw [if_neg b]
    have es : Int.tmod (wrap64 ((wrap64 (s * 1103)) + 12345)) 65521 = (s * 1103 + 12345) % 65521 := by
      rw [wr (x := s * 1103) (by omega) (by omega), wr (x := s * 1103 + 12345) (by omega) (by omega), tmod_pos _ _ (by omega)]
    have hs0 : 0 ≤ (s * 1103 + 12345) % 65521 := by omega
    have hs1 : (s * 1103 + 12345) % 65521 < 65521 := by omega
    rw [es, wr (x := a + 1) (by omega) (by omega)]
    generalize (s * 1103 + 12345) % 65521 = t at hs0 hs1
    by_cases k : a < (c.length : Int)
    · rw [if_pos k, if_pos h3, if_neg (by omega)]
      have hb := rd_byte h1 a
      rw [wr (x := rd c a) (by omega) (by omega), tmod_pos _ _ hb.1]
      exact ⟨_, _, _, rfl, ⟨h1, h2, by omega, by omega, h5, h6⟩, Int.emod_nonneg _ (by omega), fun _ => Int.emod_lt_of_pos _ hp, fun _ => by omega⟩
    · rw [if_neg k]
      by_cases e : (c.length : Int) > 0
      · rw [if_pos e, if_neg (by omega), tmod_pos _ _ h3, if_pos (Int.emod_nonneg _ (by omega)), if_pos (Int.emod_lt_of_pos _ e), if_neg (by omega)]
        have hb := rd_byte h1 (a % (c.length : Int))
        rw [tdiv_pos _ _ hs0, wr (x := t / 7) (by omega) (by omega), wr (x := rd c (a % (c.length : Int))) (by omega) (by omega), wr (x := t / 7 + rd c (a % (c.length : Int))) (by omega) (by omega), tmod_pos _ _ (by omega)]
        exact ⟨_, _, _, rfl, ⟨h1, h2, by omega, by omega, hs0, hs1⟩, Int.emod_nonneg _ (by omega), fun _ => Int.emod_lt_of_pos _ hp, fun _ => by omega⟩
      · rw [if_neg e, if_neg (by omega)]
        exact ⟨_, _, _, rfl, ⟨h1, h2, by omega, by omega, hs0, hs1⟩, Int.emod_nonneg _ (by omega), fun _ => Int.emod_lt_of_pos _ hp, fun _ => by omega⟩
theorem open_some {c : List Int} (h : ∀ x ∈ c, 0 ≤ x ∧ x ≤ 255) (hl : c.length ≤ 1048576) : ∃ s, spec_l01Open.f c = some (c, 0, s) ∧ Cur c 0 s 0 :=
  ⟨_, rfl, h, hl, by omega, by omega, by omega, by omega⟩
theorem big_ev (c : List Int) : laws_big.f c = some (decide (1048576 < (c.length : Int))) := rfl
theorem raw_some {c : List Int} {a s : Int} {m : Nat} (h : Cur c a s m) (hm : m ≤ 1000000) :
    ∃ x a' s', spec_l01Cur_raw.f c a s = some (x, a', s') ∧ Cur c a' s' (m + 2) ∧ -9223372036854775808 ≤ x ∧ x ≤ 9223372036854775807 := by
  unfold spec_l01Cur_raw.f
  obtain ⟨x, a1, s1, e1, c1, x0, x1, _⟩ := pick_some h (by omega) 8 (by omega)
  rw [e1, Option.bind_some]
  by_cases b : x = 0
  · rw [if_pos b]
    obtain ⟨y, a2, s2, e2, c2, y0, y1, _⟩ := pick_some c1 (by omega) 256 (by omega)
    rw [e2, Option.bind_some]
    have := y1 (by omega)
    exact ⟨_, _, _, rfl, c2, by rw [wr (by omega) (by omega)]; omega, by rw [wr (by omega) (by omega)]; omega⟩
  · rw [if_neg b]
    by_cases b : x = 1
    · rw [if_pos b]
      simp only [Option.bind_some]
      obtain ⟨y, a2, s2, e2, c2, y0, y1, _⟩ := pick_some c1 (by omega) 8 (by omega)
      have y1 := y1 (by omega)
      rw [e2, Option.bind_some, if_pos y0, if_pos (by simp; omega)]
      refine ⟨_, _, _, rfl, c2, ?_⟩
      have : y = 0 ∨ y = 1 ∨ y = 2 ∨ y = 3 ∨ y = 4 ∨ y = 5 ∨ y = 6 ∨ y = 7 := by omega
      rcases this with rfl | rfl | rfl | rfl | rfl | rfl | rfl | rfl <;> simp [rd]
    · rw [if_neg b]
      obtain ⟨y, a2, s2, e2, c2, y0, y1, _⟩ := pick_some c1 (by omega) 14 (by omega)
      rw [e2, Option.bind_some]
      have := y1 (by omega)
      exact ⟨_, _, _, rfl, c2, by rw [wr (by omega) (by omega)]; omega, by rw [wr (by omega) (by omega)]; omega⟩
theorem three_some {c : List Int} {a s : Int} {m : Nat} (h : Cur c a s m) (hm : m ≤ 1000) (x : Int) : ∃ i a' s', spec_l01Cur_pick.f c a s 3 = some (i, a', s') ∧ Cur c a' s' (m + 1) ∧ 0 ≤ i ∧ i < (([x, 1000, 1001] : List Int).length : Int) := by
  obtain ⟨i, a1, s1, e1, c1, x0, x1, _⟩ := pick_some h (by omega) 3 (by omega)
  exact ⟨i, a1, s1, e1, c1, x0, by have := x1 (by omega); simp; omega⟩
theorem rd3 {x i : Int} (hx : -9223372036854775808 ≤ x ∧ x ≤ 9223372036854775807) (h0 : 0 ≤ i) (h1 : i < (([x, 1000, 1001] : List Int).length : Int)) : -9223372036854775808 ≤ rd [x, 1000, 1001] i ∧ rd [x, 1000, 1001] i ≤ 9223372036854775807 := by
  have : i = 0 ∨ i = 1 ∨ i = 2 := by simp at h1; omega
  rcases this with rfl | rfl | rfl <;> simp [rd] <;> omega
def In64 (x : Int) : Prop := -9223372036854775808 ≤ x ∧ x ≤ 9223372036854775807
theorem sema_some {c : List Int} {a s : Int} {m : Nat} (h : Cur c a s m) (hm : m ≤ 100) :
    ∃ x y z a' s', spec_l01Cur_sema.f c a s = some (x, y, z, a', s') ∧ Cur c a' s' (m + 7) ∧ In64 x ∧ In64 y ∧ In64 z := by
  unfold spec_l01Cur_sema.f
  obtain ⟨x, a1, s1, e1, c1, x0, x1, _⟩ := pick_some h (by omega) 12 (by omega)
  have x1 := x1 (by omega)
  rw [e1, Option.bind_some]
  obtain ⟨y, a2, s2, e2, c2, y0, y1, _⟩ := pick_some c1 (by omega) 12 (by omega)
  have y1 := y1 (by omega)
  rw [e2, Option.bind_some]
  have ew : wrap64 ((wrap64 (x + y)) + 1) = x + y + 1 := by rw [wr (x := x + y) (by omega) (by omega), wr (by omega) (by omega)]
  obtain ⟨z, a3, s3, e3, c3, z0, z1, z2⟩ := pick_some c2 (by omega) (x + y + 1) (by omega)
  have hz : z ≤ 100 := by
    by_cases b : 2 ≤ x + y + 1
    · have := z1 b; omega
    · have := z2 (by omega); omega
  rw [ew, e3, Option.bind_some]
  obtain ⟨k, a4, s4, e4, c4, k0, k1, _⟩ := pick_some c3 (by omega) 12 (by omega)
  rw [e4, Option.bind_some]
  have ix : In64 x := ⟨by omega, by omega⟩
  have iy : In64 y := ⟨by omega, by omega⟩
  have iz : In64 z := ⟨by omega, by omega⟩
  dsimp only
  by_cases b0 : k = 0
  · rw [if_pos b0]
    obtain ⟨w, a5, s5, e5, c5, w0, w1⟩ := raw_some c4 (by omega)
    rw [e5, Option.bind_some, Option.bind_some]
    obtain ⟨i, a6, s6, e6, c6, i0, i1⟩ := three_some c5 (by omega) w
    rw [e6, Option.bind_some, if_pos i0, if_pos i1]
    exact ⟨_, _, _, _, _, rfl, c6, rd3 ⟨w0, w1⟩ i0 i1, iy, iz⟩
  · rw [if_neg b0]
    by_cases b1 : k = 1
    · rw [if_pos b1]
      obtain ⟨w, a5, s5, e5, c5, w0, w1⟩ := raw_some c4 (by omega)
      rw [e5, Option.bind_some, Option.bind_some]
      obtain ⟨i, a6, s6, e6, c6, i0, i1⟩ := three_some c5 (by omega) w
      rw [e6, Option.bind_some, if_pos i0, if_pos i1]
      exact ⟨_, _, _, _, _, rfl, c6, ix, rd3 ⟨w0, w1⟩ i0 i1, iz⟩
    · rw [if_neg b1]
      by_cases b2 : k = 2
      · rw [if_pos b2]
        obtain ⟨w, a5, s5, e5, c5, w0, w1⟩ := raw_some c4 (by omega)
        rw [e5, Option.bind_some, Option.bind_some]
        obtain ⟨i, a6, s6, e6, c6, i0, i1, _⟩ := pick_some c5 (by omega) 2 (by omega)
        have i1 := i1 (by omega)
        rw [e6, Option.bind_some, if_pos i0, if_pos (by simp; omega)]
        refine ⟨_, _, _, _, _, rfl, c6, ix, iy, ?_⟩
        have ew : wrap64 (z + 5) = z + 5 := wr (by omega) (by omega)
        have : i = 0 ∨ i = 1 := by omega
        rcases this with rfl | rfl <;> simp [rd, ew] <;> exact ⟨by omega, by omega⟩
      · rw [if_neg b2]
        exact ⟨_, _, _, _, _, rfl, c4.more (by omega), ix, iy, iz⟩
theorem many_some {c : List Int} {a s : Int} {m : Nat} (h : Cur c a s m) (hm : m ≤ 1000) : ∃ n a' s', spec_l01Cur_many.f c a s = some (n, a', s') ∧ In64 n := by
  unfold spec_l01Cur_many.f
  obtain ⟨x1, a1, s1, e1, c1, l1, u1, _⟩ := pick_some h (by omega) 9 (by omega)
  have u1 := u1 (by omega)
  rw [e1, Option.bind_some]
  obtain ⟨x2, a2, s2, e2, c2, l2, u2, _⟩ := pick_some c1 (by omega) 20 (by omega)
  have u2 := u2 (by omega)
  rw [e2, Option.bind_some]
  obtain ⟨x3, a3, s3, e3, c3, l3, u3⟩ := raw_some c2 (by omega)
  rw [e3, Option.bind_some, Option.bind_some]
  obtain ⟨i, a4, s4, e4, c4, i0, i1, _⟩ := pick_some c3 (by omega) 5 (by omega)
  have i1 := i1 (by omega)
  rw [e4, Option.bind_some, if_pos i0, if_pos (by simp; omega)]
  refine ⟨_, _, _, rfl, ?_⟩
  have w1 : wrap64 (1 + x1) = 1 + x1 := wr (by omega) (by omega)
  have w2 : wrap64 (1 + x2) = 1 + x2 := wr (by omega) (by omega)
  have : i = 0 ∨ i = 1 ∨ i = 2 ∨ i = 3 ∨ i = 4 := by omega
  rcases this with rfl | rfl | rfl | rfl | rfl <;> simp [rd, w1, w2] <;> exact ⟨by omega, by omega⟩
theorem draw_some {c : List Int} (h : ∀ x ∈ c, 0 ≤ x ∧ x ≤ 255) (hl : c.length ≤ 1048576) : ∃ x y z n, spec_DrawSemaPost.f c = some (x, y, z, n) ∧ In64 x ∧ In64 y ∧ In64 z ∧ In64 n := by
  unfold spec_DrawSemaPost.f
  obtain ⟨s, e, c0⟩ := open_some h hl
  rw [e, Option.bind_some]
  obtain ⟨x, y, z, a1, s1, e1, c1, ix, iy, iz⟩ := sema_some c0 (by omega)
  rw [e1, Option.bind_some]
  dsimp only
  obtain ⟨n, a2, s2, e2, hn⟩ := many_some c1 (by omega)
  rw [e2, Option.bind_some]
  exact ⟨_, _, _, _, rfl, ix, iy, iz, hn⟩
/-- What a post comes to. -/
def post (x y z n : Int) : Int × Int × Int × Bool := if okB x y z = true ∧ 1 ≤ n ∧ n ≤ 1000 ∧ okB (x + n) (y - n) z = true then (x + n, y - n, z, true) else (0, 0, 0, false)
theorem post_impl (x y z n : Int) : impl_SemaPost.f x y z n = some (post x y z n) := by
  unfold impl_SemaPost.f post
  simp only [is_eq, within_eq, Option.bind_some]
  by_cases h1 : okB x y z = true
  · have h1' := okB_t.1 h1
    rw [if_pos h1]
    by_cases h2 : 1 ≤ n ∧ n ≤ 1000
    · rw [if_pos (by simpa using h2), checked_eq, wr (x := x + n) (by omega) (by omega), wr (x := y - n) (by omega) (by omega)]
      by_cases h3 : okB (x + n) (y - n) z = true
      · rw [if_pos h3, if_pos ⟨h1, h2.1, h2.2, h3⟩]
        rfl
      · rw [if_neg h3, if_neg (fun h => h3 h.2.2.2)]
        rfl
    · rw [if_neg (by simpa using h2), if_neg (fun h => h2 ⟨h.2.1, h.2.2.1⟩)]
  · rw [if_neg h1, if_neg (fun h => h1 h.1)]
theorem post_yes {x y z n : Int} (h1 : okB x y z = true) (h2 : 1 ≤ n ∧ n ≤ 1000) (h3 : okB (x + n) (y - n) z = true) : post x y z n = (x + n, y - n, z, true) := if_pos ⟨h1, h2.1, h2.2, h3⟩
theorem post_no {x y z n : Int} (h : ¬ (okB x y z = true ∧ 1 ≤ n ∧ n ≤ 1000 ∧ okB (x + n) (y - n) z = true)) : post x y z n = (0, 0, 0, false) := if_neg h
theorem post_spec (x y z n : Int) : E (fun k => spec_SemaPost.f k x y z n) (post x y z n) := by
  unfold spec_SemaPost.f
  refine .bind (.of fun _ => ok_eq x y z) ?_
  by_cases h1 : okB x y z = true
  · have h1' := okB_t.1 h1
    refine .pos h1 (.bind (.of fun _ => one_eq n) (.step (fun _ => rfl) ?_))
    by_cases h2 : 1 ≤ n ∧ n ≤ 1000
    · refine .neg (by simp; omega) ?_
      rw [wr (x := x + n) (by omega) (by omega), wr (x := y - n) (by omega) (by omega)]
      refine .bind (.of fun _ => ok_eq _ _ _) ?_
      by_cases h3 : okB (x + n) (y - n) z = true
      · rw [post_yes h1 h2 h3]
        exact .pos h3 (.mk _)
      · rw [post_no (fun h => h3 h.2.2.2)]
        exact .neg h3 (.mk _)
    · rw [post_no (fun h => h2 ⟨h.2.1, h.2.2.1⟩)]
      exact .pos (by simp; omega) (.mk _)
  · rw [post_no (fun h => h1 h.1)]
    refine .neg h1 (.step (fun _ => rfl) ?_)
    exact .of fun _ => rfl
theorem left_impl (a b c : Int) (h : okB a b c = true) : impl_SemaLeft.f a b c = some (a + b - c) := by
  unfold impl_SemaLeft.f
  have h' := okB_t.1 h
  rw [is_eq, Option.bind_some, if_pos h, wr (x := a + b) (by omega) (by omega), wr (by omega) (by omega)]
theorem serve_impl (x y z n : Int) (h1 : okB x y z = true) (h2 : 1 ≤ n ∧ n ≤ 1000) :
    impl_SemaServe.f x y z n = some (if okB (x - n) y (z - n) = true then (x - n, y, z - n, true) else (0, 0, 0, false)) := by
  unfold impl_SemaServe.f
  have h1' := okB_t.1 h1
  simp only [is_eq, within_eq, Option.bind_some]
  rw [if_pos h1, if_pos (by simpa using h2), checked_eq, wr (x := x - n) (by omega) (by omega), wr (x := z - n) (by omega) (by omega)]
  split <;> rfl
theorem FnSemaPost : laws_FnSemaPost.Pure := by
  intro c _ _ hw
  refine E.out (?_ : E (fun k => laws_FnSemaPost.f k c) true)
  have hb : ∀ x ∈ c, 0 ≤ x ∧ x ≤ 255 := fun x hx => u8b (hw x hx)
  unfold laws_FnSemaPost.f
  refine .bind (.of fun _ => big_ev c) (.ite (fun _ => .mk _) (fun g => ?_))
  have hl : c.length ≤ 1048576 := by simp at g; omega
  obtain ⟨x, y, z, n, e, ix, iy, iz, hn⟩ := draw_some hb hl
  refine .bind (.of fun _ => e) (.bind (post_spec x y z n) (.bind (.of fun _ => post_impl x y z n) ?_))
  dsimp only
  refine .neg (by simp) (.neg (by simp) (.step (fun _ => rfl) ?_))
  simp only [laws_FnSemaPost.j0]
  by_cases p : okB x y z = true ∧ 1 ≤ n ∧ n ≤ 1000 ∧ okB (x + n) (y - n) z = true
  · obtain ⟨p1, p2, p3, p4⟩ := p
    have q1 := okB_t.1 p1
    have q4 := okB_t.1 p4
    rw [post_yes p1 ⟨p2, p3⟩ p4]
    dsimp only
    refine .neg (by simp) (.bind (.of fun _ => serve_impl _ _ _ _ p4 ⟨p2, p3⟩) (.bind (.of fun _ => left_impl _ _ _ p4) (.bind (.of fun _ => left_impl _ _ _ p1) (.pos (by omega) (.pos ?_ ?_)))))
    · rw [wr (x := x + n) (by omega) (by omega)]
    · by_cases r : okB (x + n - n) (y - n) (z - n) = true
      · have q := okB_t.1 r
        rw [if_pos r]
        refine .pos (by simp; omega) (.pos rfl (.bind (.of fun _ => left_impl _ _ _ r) (.bind (.of fun _ => left_impl _ _ _ p1) (.of fun _ => ?_))))
        simp
        omega
      · have hz : ¬ z ≥ n := fun hz => r (okB_t.2 (by omega))
        rw [if_neg r]
        exact .pos (by simpa using hz) (.neg (by simp) (.mk _))
  · rw [post_no p]
    exact .pos (by simp) (.of fun _ => by simp)
end Go.Proofs.Ytdplpnianhaloaa.Pure
