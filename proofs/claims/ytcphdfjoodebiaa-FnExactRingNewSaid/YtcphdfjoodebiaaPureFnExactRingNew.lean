/- FnExactRingNew: over numbers and lists alone the program's RingNew and the reference's give the same ring, whose slots lie in memory of their own. No condition. -/
import Derived.Test.YtcphdfjoodebiaaPFnExactRingNewx3
import Derived.Test.YtcphdfjoodebiaaPK
set_option linter.unusedVariables false
set_option linter.unusedSimpArgs false
namespace Go.Proofs.Ytcphdfjoodebiaa.Pure
open Go.RowKit Go.Proofs.Ytcphdfjoodebiaa.PFnExactRingNew Go.Proofs.YtcphdfjoodebiaaW.PrintWords Go.Proofs.YtcphdfjoodebiaaW.PrintLast Go.Proofs.YtcphdfjoodebiaaW.PrintMore
open Go.Proofs.Ytcphdfjoodebiaa.PK (wr i64b u32b u8b tmod_pos tdiv_pos or_comm')
open Go.Proofs.Ytcphdfjoodebiaa.PK renaming Ev → E
theorem eqslot_l (l : List S51) (hl : l.length < 1000) (d : Nat) : ∀ i : Int, 0 ≤ i → i + d = l.length → E (fun k => laws_eqSlotS.l0 k l l i) true := by
  induction d with
  | zero => exact fun i h0 h => .step (fun _ => rfl) (.neg (by omega) (.mk _))
  | succ d ih =>
    intro i h0 h
    refine .step (fun _ => rfl) (.pos (by omega) (.pos h0 (.pos (by omega) (.bind (.of fun _ => by unfold laws_eqSlot.f; rw [if_pos rfl, if_pos rfl]) (.pos rfl ?_)))))
    rw [wr (x := i + 1) (by omega) (by omega)]
    exact ih (i + 1) (by omega) (by omega)
theorem eqring_f (a b : Int) (l : List S51) (hl : l.length < 1000) : E (fun k => laws_eqRing.f k a b l a b l) true := by
  unfold laws_eqRing.f laws_eqSlotS.f
  exact .pos rfl (.pos rfl (.bind (.pos rfl (eqslot_l l hl l.length 0 (by omega) (by omega))) (.pos rfl (.mk _))))
/-- The marks of a row of slots. -/
def marks (n : Nat) : List S51 := (List.range n).map fun j : Nat => ⟨1 + 2 * (j : Int), 2 + 2 * (j : Int)⟩
theorem marks_len (n : Nat) : (marks n).length = n := by simp [marks]
theorem marks_at {n j : Nat} (h : j < n) : (marks n)[j]? = some ⟨1 + 2 * (j : Int), 2 + 2 * (j : Int)⟩ := by simp [marks, List.getElem?_range h]
theorem rdT_at {l : List S51} {j : Nat} {x : S51} (h : l[j]? = some x) : rd_T51 l (j : Int) = x := by simp [rd_T51, h]
theorem mark_l (n : Nat) (hn : n < 1000) (d : Nat) : ∀ (i : Nat) (l : List S51), l.length = n → i + d = n → (∀ j, j < i → l[j]? = some ⟨1 + 2 * (j : Int), 2 + 2 * (j : Int)⟩) →
    E (fun k => laws_markSlotS.l0 k l (1 + 2 * i) i) (1 + 2 * n, marks n) := by
  induction d with
  | zero =>
    intro i l hl hi hm
    have hlm : l = marks n := by
      refine List.ext_getElem? fun j => ?_
      by_cases hj : j < n
      · rw [hm j (by omega), marks_at hj]
      · rw [List.getElem?_eq_none (by omega), List.getElem?_eq_none (by rw [marks_len]; omega)]
    obtain rfl : i = n := by omega
    refine .step (fun _ => rfl) (.neg (by omega) (.of fun _ => ?_))
    rw [hlm]
  | succ d ih =>
    intro i l hl hi hm
    refine .step (fun _ => rfl) (.pos (by omega) (.pos (by omega) (.bind (.mk _) ?_)))
    rw [wr (x := (i : Int) + 1) (by omega) (by omega), wr (x := 1 + 2 * (i : Int) + 1) (by omega) (by omega), wr (x := 1 + 2 * (i : Int) + 1 + 1) (by omega) (by omega), show 1 + 2 * (i : Int) + 1 + 1 = 1 + 2 * ((i + 1 : Nat) : Int) by omega, show (i : Int) + 1 = ((i + 1 : Nat) : Int) by omega]
    refine ih (i + 1) _ (by simp [hl]) (by omega) fun j hj => ?_
    have hil : i < l.length := by omega
    by_cases e : j = i
    · subst e
      simp [List.getElem?_set, hil, rd_T51, List.getD_eq_getElem?_getD]
      omega
    · have := hm j (by omega)
      simp [List.getElem?_set, Ne.symm e]
      simpa using this
theorem mark_f (l : List S51) (hl : l.length < 1000) : E (fun k => laws_markSlotS.f k l 1) (1 + 2 * l.length, marks l.length) := by
  unfold laws_markSlotS.f
  exact mark_l l.length hl l.length 0 l rfl (by omega) (fun j hj => by omega)
theorem held_l (n : Nat) (hn : n < 1000) (d : Nat) : ∀ i : Nat, i + d = n → E (fun k => laws_heldSlotS.l0 k (marks n) (1 + 2 * i) i) (1 + 2 * n) := by
  induction d with
  | zero =>
    intro i hi
    obtain rfl : i = n := by omega
    exact .step (fun _ => rfl) (.neg (by rw [marks_len]; omega) (.mk _))
  | succ d ih =>
    intro i hi
    have e := rdT_at (marks_at (n := n) (j := i) (by omega))
    refine .step (fun _ => rfl) (.pos (by rw [marks_len]; omega) (.pos (by omega) (.pos ?_ (.pos ?_ ?_))))
    · rw [e]
    · rw [e, wr (by omega) (by omega)]; simp; omega
    · rw [wr (x := (i : Int) + 1) (by omega) (by omega), wr (x := 1 + 2 * (i : Int) + 1) (by omega) (by omega), wr (x := 1 + 2 * (i : Int) + 1 + 1) (by omega) (by omega), show 1 + 2 * (i : Int) + 1 + 1 = 1 + 2 * ((i + 1 : Nat) : Int) by omega, show (i : Int) + 1 = ((i + 1 : Nat) : Int) by omega]
      exact ih (i + 1) (by omega)
theorem held_f (n : Nat) (hn : n < 1000) : E (fun k => laws_heldSlotS.f k (marks n) 1) (1 + 2 * n) := by
  unfold laws_heldSlotS.f
  exact held_l n hn n 0 (by omega)
theorem markring_f (a b : Int) (l : List S51) (hl : l.length < 1000) : E (fun k => laws_markRing.f k a b l 1) (1 + 2 * l.length, marks l.length) := by
  unfold laws_markRing.f
  exact .bind (mark_f l hl) (.mk _)
theorem heldring_f (a b : Int) (n : Nat) (hn : n < 1000) : E (fun k => laws_heldRing.f k a b (marks n) 1) (1 + 2 * n) := by
  unfold laws_heldRing.f
  exact .bind (held_f n hn) (.neg (by omega) (.mk _))
theorem within_eq (a b c : Int) : impl_within.f a b c = some (decide (b ≤ a ∧ a ≤ c)) := by
  unfold impl_within.f
  by_cases h : a ≥ b
  · have : b ≤ a := h
    simp [this]
  · have : ¬ b ≤ a := h
    simp [this]
/-- The slots of a new ring. -/
def news (n : Nat) : List S51 := (List.range n).map fun j : Nat => ⟨(j : Int), 0⟩
theorem news_len (n : Nat) : (news n).length = n := by simp [news]
theorem news_succ (n : Nat) : news (n + 1) = news n ++ [⟨(n : Int), 0⟩] := by simp [news, List.range_succ]
theorem new_spec_l (n : Nat) (hn : n ≤ 32) (d : Nat) : ∀ i : Nat, i + d = n → E (fun k => spec_RingNew.l0 k n i 0 0 (news i)) (0, 0, news n, true) := by
  induction d with
  | zero =>
    intro i hi
    obtain rfl : i = n := by omega
    exact .step (fun _ => rfl) (.neg (by omega) (.mk _))
  | succ d ih =>
    intro i hi
    refine .step (fun _ => rfl) (.pos (by omega) (.pos (by rw [news_len]; omega) ?_))
    rw [wr (x := (i : Int) + 1) (by omega) (by omega), show (i : Int) + 1 = ((i + 1 : Nat) : Int) by omega, ← news_succ]
    exact ih (i + 1) (by omega)
def newR (a : Int) : Int × Int × List S51 × Bool := if 1 ≤ a ∧ a ≤ 32 then (0, 0, news a.toNat, true) else (0, 0, [], false)
theorem new_spec (a : Int) : E (fun k => spec_RingNew.f k a) (newR a) := by
  unfold spec_RingNew.f
  by_cases h : 1 ≤ a ∧ a ≤ 32
  · rw [show newR a = _ from if_pos h]
    obtain ⟨n, rfl⟩ := Int.eq_ofNat_of_zero_le (show 0 ≤ a by omega)
    refine .neg (by omega) (.step (fun _ => rfl) (.neg (by simp; omega) ?_))
    exact new_spec_l n (by omega) n 0 (by omega)
  · rw [show newR a = _ from if_neg h]
    refine .ite (fun g => .step (fun _ => rfl) (.of fun _ => rfl)) (fun g => .step (fun _ => rfl) (.pos (by simp; omega) (.mk _)))
theorem new_impl_l (n : Nat) (hn : n ≤ 32) (d : Nat) : ∀ (i : Nat) (l : List S51), l.length = n → i + d = n → (∀ j, j < i → l[j]? = some ⟨(j : Int), 0⟩) → (∀ j, i ≤ j → j < n → l[j]? = some ⟨0, 0⟩) →
    E (fun k => impl_RingNew.l0 k n i 0 0 l) (0, 0, news n, true) := by
  induction d with
  | zero =>
    intro i l hl hi hm _
    have hlm : l = news n := by
      refine List.ext_getElem? fun j => ?_
      by_cases hj : j < n
      · rw [hm j (by omega)]
        simp [news, List.getElem?_range hj]
      · rw [List.getElem?_eq_none (by omega), List.getElem?_eq_none (by rw [news_len]; omega)]
    obtain rfl : i = n := by omega
    refine .step (fun _ => rfl) (.neg (by omega) (.of fun _ => ?_))
    rw [hlm]
  | succ d ih =>
    intro i l hl hi hm hz
    refine .step (fun _ => rfl) (.pos (by omega) (.pos (by omega) (.pos (by omega) ?_)))
    have hil : i < l.length := by omega
    have e0 : rd_T51 l (i : Int) = ⟨0, 0⟩ := by simp [rd_T51, hz i (Nat.le_refl _) (by omega)]
    rw [e0, wr (x := (i : Int) + 1) (by omega) (by omega), show (i : Int) + 1 = ((i + 1 : Nat) : Int) by omega]
    refine ih (i + 1) _ (by simp [hl]) (by omega) (fun j hj => ?_) (fun j hj hjn => ?_)
    · by_cases e : j = i
      · subst e
        simp [List.getElem?_set, hil]
      · simp [List.getElem?_set, Ne.symm e]
        simpa using hm j (by omega)
    · have : i ≠ j := by omega
      simp [List.getElem?_set, this]
      simpa using hz j (by omega) hjn
theorem new_impl (a : Int) : E (fun k => impl_RingNew.f k a) (newR a) := by
  unfold impl_RingNew.f
  refine .bind (.of fun _ => within_eq a 1 32) ?_
  by_cases h : 1 ≤ a ∧ a ≤ 32
  · rw [show newR a = _ from if_pos h]
    obtain ⟨n, rfl⟩ := Int.eq_ofNat_of_zero_le (show 0 ≤ a by omega)
    refine .pos (by simpa using h) (.pos (by omega) (.pos (by omega) (.bind (.mk _) ?_)))
    have := new_impl_l n (by omega) n 0 (List.replicate ((n : Int)).toNat z51) (by simp) (by omega) (fun j hj => by omega) (fun j _ hj => by simp [hj, z51])
    simpa using this
  · rw [show newR a = _ from if_neg h]
    exact .neg (by simpa using h) (.mk _)
theorem newR_len (a : Int) : (newR a).2.2.1.length < 1000 := by
  unfold newR
  split
  · simp [news_len]; omega
  · simp
theorem FnExactRingNew : laws_FnExactRingNew.Pure := by
  intro a _
  refine E.out (?_ : E (fun k => laws_FnExactRingNew.f k a) true)
  have hl := newR_len a
  have hs := new_spec a
  have hi := new_impl a
  revert hl hs hi
  generalize newR a = r
  obtain ⟨x, y, l, b⟩ := r
  intro hl hs hi
  dsimp only at hl
  unfold laws_FnExactRingNew.f
  refine .bind hs (.bind hi (.bind (eqring_f _ _ _ hl) (.pos rfl (.step (fun _ => rfl) ?_))))
  simp only [laws_FnExactRingNew.j0]
  refine .neg (by simp) (.bind (markring_f _ _ _ hl) (.bind (heldring_f _ _ _ hl) (.neg (by omega) (.pos rfl (.bind hi (.bind (eqring_f _ _ _ hl) (.pos rfl (.step (fun _ => rfl) ?_))))))))
  simp only [laws_FnExactRingNew.j1]
  exact .neg (by simp) (.bind (heldring_f _ _ _ hl) (.neg (by omega) (.pos rfl (.mk _))))
end Go.Proofs.Ytcphdfjoodebiaa.Pure
