/- FnExactNumBytes: over numbers and lists alone the program's NumBytes and the reference's give the same bytes, and these lie in memory of their own. No condition. -/
import Derived.Test.YtcfbhhbfnckhpaaPFnExactNumBytesx1
import Derived.Test.YtcfbhhbfnckhpaaPK
set_option linter.unusedVariables false
set_option linter.unusedSimpArgs false
namespace Go.Proofs.Ytcfbhhbfnckhpaa.Pure
open Go.RowKit Go.Proofs.Ytcfbhhbfnckhpaa.PFnExactNumBytes Go.Proofs.YtcfbhhbfnckhpaaW.PrintWords Go.Proofs.YtcfbhhbfnckhpaaW.PrintLast
open Go.Proofs.Ytcfbhhbfnckhpaa.PK (wr i64b tmod_pos tdiv_pos or_comm')
open Go.Proofs.Ytcfbhhbfnckhpaa.PK renaming Ev → E
namespace NumBytes
/-- The bytes of a number of at most 16 bits. -/
def numB (n : Int) : List Int := if n < 128 then [n] else if n < 16384 then [128 + n % 128, n / 128] else [128 + n % 128, 128 + n / 128 % 128, n / 16384]
theorem spec_last (n : Int) (l : List Int) (h0 : 0 ≤ n) (h1 : n < 128) (hl : l.length < 100) : E (fun k => spec_NumBytes.l0 k n l) (l ++ [n]) := by
  refine .step (fun _ => rfl) (.neg (by omega) (.pos (by omega) (.of fun _ => ?_)))
  rw [show n % 256 = n by omega]
theorem spec_more (n : Int) (l r : List Int) (h0 : 128 ≤ n) (h1 : n ≤ 65535) (hl : l.length < 100) (h : E (fun k => spec_NumBytes.l0 k (n / 128) (l ++ [128 + n % 128])) r) : E (fun k => spec_NumBytes.l0 k n l) r := by
  refine .step (fun _ => rfl) (.pos (by omega) (.pos (by omega) ?_))
  rw [tdiv_pos n 128 (by omega), tmod_pos n 128 (by omega), wr (x := n / 128) (by omega) (by omega), wr (x := 128 + n % 128) (by omega) (by omega), show (128 + n % 128) % 256 = 128 + n % 128 by omega]
  exact h
theorem spec_all (n : Int) (h0 : 0 ≤ n) (h1 : n ≤ 65535) : E (fun k => spec_NumBytes.l0 k n []) (numB n) := by
  unfold numB
  by_cases a : n < 128
  · rw [if_pos a]
    exact spec_last n [] h0 a (by simp)
  · rw [if_neg a]
    refine spec_more n [] _ (by omega) h1 (by simp) ?_
    by_cases b : n < 16384
    · rw [if_pos b]
      exact spec_last (n / 128) _ (by omega) (by omega) (by simp)
    · rw [if_neg b]
      refine spec_more (n / 128) _ _ (by omega) (by omega) (by simp) ?_
      have := spec_last (n / 128 / 128) ([] ++ [128 + n % 128] ++ [128 + n / 128 % 128]) (by omega) (by omega) (by simp)
      rw [show n / 16384 = n / 128 / 128 by omega]
      exact this
theorem wraps_i64 (n : Int) (h₀ : 0 ≤ n) (h₁ : n < 2 ^ 62) : IntKind.i64.wrap n = n := by rw [IntKind.wrap_i64]; omega
theorem bits_eq (n : Int) (h0 : 0 ≤ n) (h1 : n ≤ 65535) : Go.bits .or .i64 (Go.bits .and .i64 n 127) 128 = 128 + n % 128 := by
  have e : Go.bits .and .i64 n 127 = n % 128 := bits_mask .i64 62 (by decide) wraps_i64 7 (by decide) n h0 (by omega)
  rw [e, or_comm']
  exact bits_join .i64 62 (by decide) wraps_i64 7 128 (n % 128) (by omega) (by omega) (by omega) (by omega) (by omega) (by omega)
theorem impl_last (n : Int) (l : List Int) (h0 : 0 ≤ n) (h1 : n < 128) (hl : l.length < 100) : E (fun k => impl_numBytes.l0 k l n) (l ++ [n]) := by
  refine .step (fun _ => rfl) (.neg (by omega) (.pos (by omega) (.of fun _ => ?_)))
  rw [show n % 256 = n by omega]
theorem impl_more (n : Int) (l r : List Int) (h0 : 128 ≤ n) (h1 : n ≤ 65535) (hl : l.length < 100) (h : E (fun k => impl_numBytes.l0 k (l ++ [128 + n % 128]) (n / 128)) r) : E (fun k => impl_numBytes.l0 k l n) r := by
  refine .step (fun _ => rfl) (.pos (by omega) (.pos (by omega) ?_))
  rw [bits_eq n (by omega) h1, show (128 + n % 128) % 256 = 128 + n % 128 by omega]
  exact h
theorem impl_all (n : Int) (h0 : 0 ≤ n) (h1 : n ≤ 65535) : E (fun k => impl_numBytes.l0 k [] n) (numB n) := by
  unfold numB
  by_cases a : n < 128
  · rw [if_pos a]
    exact impl_last n [] h0 a (by simp)
  · rw [if_neg a]
    refine impl_more n [] _ (by omega) h1 (by simp) ?_
    by_cases b : n < 16384
    · rw [if_pos b]
      exact impl_last (n / 128) _ (by omega) (by omega) (by simp)
    · rw [if_neg b]
      refine impl_more (n / 128) _ _ (by omega) (by omega) (by simp) ?_
      have := impl_last (n / 128 / 128) ([] ++ [128 + n % 128] ++ [128 + n / 128 % 128]) (by omega) (by omega) (by simp)
      rw [show n / 16384 = n / 128 / 128 by omega]
      exact this
theorem spec_f (n : Int) : E (fun k => spec_NumBytes.f k n) (if 0 ≤ n ∧ n ≤ 65535 then numB n else []) := by
  unfold spec_NumBytes.f
  refine .ite (fun h => ?_) (fun h => ?_)
  · rw [if_neg (by omega)]
    exact .step (fun _ => rfl) (.of fun _ => rfl)
  · refine .step (fun _ => rfl) (.ite (fun g => ?_) (fun g => ?_))
    · have g' : n > 65535 := by simpa using g
      rw [if_neg (by omega)]
      exact .mk _
    · have g' : ¬ n > 65535 := by simpa using g
      rw [if_pos (by omega)]
      exact spec_all n (by omega) (by omega)
theorem impl_f (n : Int) : E (fun k => impl_NumBytes.f k n) (if 0 ≤ n ∧ n ≤ 65535 then numB n else []) := by
  have w : impl_within.f n 0 65535 = some (decide (0 ≤ n ∧ n ≤ 65535)) := by
    unfold impl_within.f
    by_cases h : n ≥ 0
    · have : 0 ≤ n := h
      simp [this]
    · have : ¬ 0 ≤ n := h
      simp [this]
  unfold impl_NumBytes.f impl_numBytes.f
  simp only [w, Option.bind_some, decide_eq_true_eq]
  refine .ite (fun h => ?_) (fun h => ?_)
  · rw [if_pos h]
    exact .bind (impl_all n h.1 h.2) (.mk _)
  · rw [if_neg h]
    exact .mk _
theorem eq_l (l : List Int) (hl : l.length < 1000) (d : Nat) : ∀ i : Int, 0 ≤ i → i + d = l.length → E (fun k => laws_eqByteS.l0 k l l i) true := by
  induction d with
  | zero => exact fun i h0 h => .step (fun _ => rfl) (.neg (by omega) (.mk _))
  | succ d ih =>
    intro i h0 h
    refine .step (fun _ => rfl) (.pos (by omega) (.pos h0 (.pos (by omega) (.pos rfl ?_))))
    rw [wr (x := i + 1) (by omega) (by omega)]
    exact ih (i + 1) (by omega) (by omega)
theorem eq_f (l : List Int) (hl : l.length < 1000) : E (fun k => laws_eqByteS.f k l l) true := by
  unfold laws_eqByteS.f
  exact .pos rfl (eq_l l hl l.length 0 (by omega) (by omega))
/-- What marking leaves: the first 'i' cells are the marks. -/
def marks (n : Nat) : List Int := (List.range n).map fun j : Nat => ((1 : Int) + (j : Int)) % 256
theorem mark_l (n : Nat) (hn : n < 1000) (d : Nat) : ∀ (i : Nat) (l : List Int), l.length = n → i + d = n → (∀ j, j < i → l.getD j 0 = ((1 : Int) + j) % 256) →
    E (fun k => laws_markByteS.l0 k l (1 + i) i) (1 + n, marks n) := by
  induction d with
  | zero =>
    intro i l hl hi hm
    have hlm : l = marks n := by
      refine List.ext_getElem (by simp [marks, hl]) fun j h1 h2 => ?_
      have := hm j (by omega)
      simp [marks, List.getD_eq_getElem?_getD, List.getElem?_eq_getElem h1] at this ⊢
      exact this
    obtain rfl : i = n := by omega
    refine .step (fun _ => rfl) (.neg (by omega) (.of fun _ => ?_))
    rw [hlm]
  | succ d ih =>
    intro i l hl hi hm
    refine .step (fun _ => rfl) (.pos (by omega) (.pos (by omega) ?_))
    rw [wr (x := (i : Int) + 1) (by omega) (by omega), wr (x := 1 + (i : Int) + 1) (by omega) (by omega), show 1 + (i : Int) + 1 = 1 + ((i + 1 : Nat) : Int) by omega, show (i : Int) + 1 = ((i + 1 : Nat) : Int) by omega]
    refine ih (i + 1) _ (by simp [hl]) (by omega) fun j hj => ?_
    by_cases e : j = i
    · subst e
      simp [List.getD_eq_getElem?_getD, List.getElem?_set, hl, show j < n by omega]
    · have := hm j (by omega)
      simp [List.getD_eq_getElem?_getD, List.getElem?_set, Ne.symm e] at this ⊢
      exact this
theorem mark_f (l : List Int) (hl : l.length < 1000) : E (fun k => laws_markByteS.f k l 1) (1 + l.length, marks l.length) := by
  unfold laws_markByteS.f
  exact mark_l l.length hl l.length 0 l rfl (by omega) (fun j hj => by omega)
theorem held_l (n : Nat) (hn : n < 1000) (d : Nat) : ∀ i : Nat, i + d = n → E (fun k => laws_heldByteS.l0 k (marks n) (1 + i) i) (1 + n) := by
  have hlen : (marks n).length = n := by simp [marks]
  induction d with
  | zero =>
    intro i hi
    obtain rfl : i = n := by omega
    exact .step (fun _ => rfl) (.neg (by omega) (.mk _))
  | succ d ih =>
    intro i hi
    refine .step (fun _ => rfl) (.pos (by omega) (.pos (by omega) (.pos ?_ ?_)))
    · simp [rd, marks, List.getD_eq_getElem?_getD, List.getElem?_map, List.getElem?_range, show i < n by omega]
    · rw [wr (x := (i : Int) + 1) (by omega) (by omega), wr (x := 1 + (i : Int) + 1) (by omega) (by omega), show 1 + (i : Int) + 1 = 1 + ((i + 1 : Nat) : Int) by omega, show (i : Int) + 1 = ((i + 1 : Nat) : Int) by omega]
      exact ih (i + 1) (by omega)
theorem held_f (n : Nat) (hn : n < 1000) : E (fun k => laws_heldByteS.f k (marks n) 1) (1 + n) := by
  unfold laws_heldByteS.f
  exact held_l n hn n 0 (by omega)
theorem numB_len (n : Int) : (numB n).length < 1000 := by
  unfold numB
  split
  · simp
  · split <;> simp
end NumBytes
open NumBytes in
theorem FnExactNumBytes : laws_FnExactNumBytes.Pure := by
  intro n _
  refine E.out (?_ : E (fun k => laws_FnExactNumBytes.f k n) true)
  have hl : (if 0 ≤ n ∧ n ≤ 65535 then numB n else []).length < 1000 := by
    split
    · exact numB_len n
    · simp
  have hs := spec_f n
  have hi := impl_f n
  revert hl hs hi
  generalize (if 0 ≤ n ∧ n ≤ 65535 then numB n else []) = l
  intro hl hs hi
  unfold laws_FnExactNumBytes.f
  refine .bind hs (.bind hi (.bind (eq_f l hl) (.pos rfl (.bind (mark_f l hl) (.bind (held_f _ hl) (.neg (by omega) (.pos rfl (.bind hi (.bind (eq_f l hl) (.pos rfl (.bind (held_f _ hl) (.neg (by omega) (.pos rfl (.mk _))))))))))))))
end Go.Proofs.Ytcfbhhbfnckhpaa.Pure
