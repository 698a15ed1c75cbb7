/- FnExactRingTurn: over numbers and lists alone the program's RingTurn and the reference's give the same. No condition beyond the kinds of the numbers. -/
import Derived.Test.YtcphdfjoodebiaaPFnExactRingTurnx6
import Derived.Test.YtcphdfjoodebiaaPK
set_option linter.unusedVariables false
set_option linter.unusedSimpArgs false
namespace Go.Proofs.Ytcphdfjoodebiaa.Pure
open Go.RowKit Go.Proofs.Ytcphdfjoodebiaa.PFnExactRingTurn Go.Proofs.YtcphdfjoodebiaaW.PrintWords Go.Proofs.YtcphdfjoodebiaaW.PrintLast Go.Proofs.YtcphdfjoodebiaaW.PrintMore
open Go.Proofs.Ytcphdfjoodebiaa.PK (wr i64b u32b u8b tmod_pos tdiv_pos or_comm')
open Go.Proofs.Ytcphdfjoodebiaa.PK renaming Ev → E
theorem eqslot_l (l : List S51) (hl : l.length ≤ 1048576) (d : Nat) : ∀ i : Int, 0 ≤ i → i + d = l.length → E (fun k => laws_eqSlotS.l0 k l l i) true := by
  induction d with
  | zero => exact fun i h0 h => .step (fun _ => rfl) (.neg (by omega) (.mk _))
  | succ d ih =>
    intro i h0 h
    refine .step (fun _ => rfl) (.pos (by omega) (.pos h0 (.pos (by omega) (.bind (.of fun _ => by unfold laws_eqSlot.f; rw [if_pos rfl, if_pos rfl]) (.pos rfl ?_)))))
    rw [wr (x := i + 1) (by omega) (by omega)]
    exact ih (i + 1) (by omega) (by omega)
theorem eqring_f (a b : Int) (l : List S51) (hl : l.length ≤ 1048576) : E (fun k => laws_eqRing.f k a b l a b l) true := by
  unfold laws_eqRing.f laws_eqSlotS.f
  exact .pos rfl (.pos rfl (.bind (.pos rfl (eqslot_l l hl l.length 0 (by omega) (by omega))) (.pos rfl (.mk _))))
theorem within_eq (a b c : Int) : impl_within.f a b c = some (decide (b ≤ a ∧ a ≤ c)) := by
  unfold impl_within.f
  by_cases h : a ≥ b
  · have : b ≤ a := h
    simp [this]
  · have : ¬ b ≤ a := h
    simp [this]
/-- The program's slots of the law's. -/
def toS (l : List S66) : List S51 := l.map fun x => ⟨x.f0, x.f1⟩
theorem toS_len (l : List S66) : (toS l).length = l.length := by simp [toS]
theorem to_l (l : List S66) (hl : l.length ≤ 1048576) (d : Nat) : ∀ (i : Nat) (m : List S51), m.length = l.length → i + d = l.length → (∀ j, j < i → m[j]? = (toS l)[j]?) →
    E (fun k => laws_toSlotS.l0 k l m i) (toS l) := by
  induction d with
  | zero =>
    intro i m hm hi hj
    have e : m = toS l := by
      refine List.ext_getElem? fun j => ?_
      by_cases h : j < l.length
      · exact hj j (by omega)
      · rw [List.getElem?_eq_none (by omega), List.getElem?_eq_none (by rw [toS_len]; omega)]
    refine .step (fun _ => rfl) (.neg (by omega) (.of fun _ => ?_))
    rw [e]
  | succ d ih =>
    intro i m hm hi hj
    refine .step (fun _ => rfl) (.pos (by omega) (.pos (by omega) (.bind (.of fun _ => rfl) (.pos (by omega) ?_))))
    rw [wr (x := (i : Int) + 1) (by omega) (by omega), show (i : Int) + 1 = ((i + 1 : Nat) : Int) by omega]
    refine ih (i + 1) _ (by simp [hm]) (by omega) fun j h => ?_
    have hil : i < m.length := by omega
    have hil' : i < l.length := by omega
    by_cases e : j = i
    · subst e
      simp [List.getElem?_set, hil, toS, rd_T66, List.getElem?_eq_getElem hil']
    · simp [List.getElem?_set, Ne.symm e]
      simpa using hj j (by omega)
theorem to_f (l : List S66) (hl : l.length ≤ 1048576) : E (fun k => laws_toSlotS.f k l) (toS l) := by
  unfold laws_toSlotS.f
  exact .pos (by omega) (.pos (by omega) (to_l l hl l.length 0 _ (by simp) (by omega) (fun j hj => by omega)))
theorem toring_f (a b : Int) (l : List S66) (hl : l.length ≤ 1048576) : E (fun k => laws_toRing.f k a b l) (a, b, toS l) := by
  unfold laws_toRing.f
  exact .bind (to_f l hl) (.mk _)
theorem sz_f (a b : Int) (l : List S66) (hm : l.length ≤ maxLen) : laws_szRing.f a b l 1048576 = some (if l.length ≤ 1048576 then 1048576 - (l.length : Int) else -1) := by
  unfold laws_szRing.f laws_szSlotS.f
  simp only [maxLen] at hm
  rw [wr (x := 1048576 - (l.length : Int)) (by omega) (by omega)]
  by_cases h : l.length ≤ 1048576
  · rw [if_neg (by omega), if_pos h, Option.bind_some, if_neg (by omega)]
  · rw [if_pos (by omega), if_neg h, Option.bind_some, if_pos (by omega)]
/-- Is slot k right? -/
def slotB (t k : Int) (s : S51) : Bool := if k < t then (s.f0 == k + 1 && (decide (0 ≤ s.f1) && decide (s.f1 ≤ 255))) else (s.f0 == k && s.f1 == 0)
/-- d slots from k on. -/
def allB (t : Int) (l : List S51) : Nat → Int → Bool
  | 0, _ => true
  | d + 1, k => slotB t k (rd_T51 l (k % (l.length : Int))) && allB t l d (k + 1)
def shapeP (h t : Int) (l : List S51) : Prop := 1 ≤ (l.length : Int) ∧ (l.length : Int) ≤ 32 ∧ 0 ≤ h ∧ h ≤ t ∧ t ≤ 1000000 ∧ t ≤ h + l.length
/-- Is the ring right? -/
def ringB (h t : Int) (l : List S51) : Bool := decide (1 ≤ (l.length : Int) ∧ (l.length : Int) ≤ 32 ∧ 0 ≤ h ∧ h ≤ t ∧ t ≤ 1000000 ∧ t ≤ h + l.length) && allB t l l.length h
theorem ringB_yes {h t : Int} {l : List S51} (s : shapeP h t l) : ringB h t l = allB t l l.length h := by
  unfold shapeP at s
  simp [ringB, s]
theorem ringB_no {h t : Int} {l : List S51} (s : ¬ shapeP h t l) : ringB h t l = false := by
  unfold shapeP at s
  unfold ringB
  rw [decide_eq_false s, Bool.false_and]
theorem ringB_shape {h t : Int} {l : List S51} (r : ringB h t l = true) : shapeP h t l := by
  unfold ringB at r
  simp only [Bool.and_eq_true, decide_eq_true_eq] at r
  exact r.1
theorem ok_spec_l (h t : Int) (l : List S51) (s : shapeP h t l) (d : Nat) : ∀ x : Int, h ≤ x → x + d = h + l.length → E (fun k => spec_RingOk.l0 k l.length x h t l) (allB t l d x) := by
  obtain ⟨s1, s2, s3, s4, s5, s6⟩ := s
  induction d with
  | zero =>
    intro x h0 hx
    refine .step (fun _ => rfl) (.neg ?_ (.mk _))
    rw [wr (by omega) (by omega)]; omega
  | succ d ih =>
    intro x h0 hx
    have m0 : 0 ≤ x % (l.length : Int) := Int.emod_nonneg _ (by omega)
    have m1 : x % (l.length : Int) < l.length := Int.emod_lt_of_pos _ (by omega)
    have ihx := ih (x + 1) (by omega) (by omega)
    refine .step (fun _ => rfl) (.pos ?_ (.neg (by omega) (.pos ?_ (.pos ?_ ?_))))
    · rw [wr (by omega) (by omega)]; omega
    · rw [tmod_pos _ _ (by omega)]; exact m0
    · rw [tmod_pos _ _ (by omega)]; exact m1
    · rw [tmod_pos _ _ (show 0 ≤ x by omega), wr (x := x + 1) (by omega) (by omega)]
      show E _ (slotB t x (rd_T51 l (x % (l.length : Int))) && allB t l d (x + 1))
      generalize rd_T51 l (x % (l.length : Int)) = q
      unfold slotB
      by_cases a : q.f1 < 0
      · refine .pos a (.of fun _ => ?_)
        have e1 : decide (0 ≤ q.f1) = false := decide_eq_false (by omega)
        have e2 : (q.f1 == 0) = false := beq_eq_false_iff_ne.2 (by omega)
        simp [e1, e2]
      · refine .neg a ?_
        by_cases b : q.f1 > 255
        · refine .pos b (.of fun _ => ?_)
          have e1 : decide (q.f1 ≤ 255) = false := decide_eq_false (by omega)
          have e2 : (q.f1 == 0) = false := beq_eq_false_iff_ne.2 (by omega)
          simp [e1, e2]
        · refine .neg b ?_
          have e1 : decide (0 ≤ q.f1) = true := decide_eq_true (by omega)
          have e2 : decide (q.f1 ≤ 255) = true := decide_eq_true (by omega)
          by_cases c : x < t
          · refine .pos c ?_
            rw [if_pos c, e1, e2]
            by_cases e : q.f0 = x + 1
            · refine .pos e (.neg (by omega) ?_)
              simpa [e] using ihx
            · refine .neg e (.of fun _ => ?_)
              simp [e]
          · refine .neg c (.pos (by omega) ?_)
            rw [if_neg c]
            by_cases e : (q.f0 == x && q.f1 == 0) = true
            · rw [e, Bool.true_and]
              refine .neg ?_ ihx
              simp only [Bool.and_eq_true] at e
              simp [e.1, e.2]
            · have e' : (q.f0 == x && q.f1 == 0) = false := by simpa using e
              rw [e', Bool.false_and]
              refine .pos ?_ (.mk _)
              rw [← Bool.not_and, e']
              rfl
theorem ok_impl_l (h t : Int) (l : List S51) (s : shapeP h t l) (d : Nat) : ∀ x : Int, h ≤ x → x + d = h + l.length → E (fun k => impl_isRing.l0 k l.length x h t l) (allB t l d x) := by
  obtain ⟨s1, s2, s3, s4, s5, s6⟩ := s
  induction d with
  | zero =>
    intro x h0 hx
    refine .step (fun _ => rfl) (.neg ?_ (.mk _))
    rw [wr (by omega) (by omega)]; omega
  | succ d ih =>
    intro x h0 hx
    have m0 : 0 ≤ x % (l.length : Int) := Int.emod_nonneg _ (by omega)
    have m1 : x % (l.length : Int) < l.length := Int.emod_lt_of_pos _ (by omega)
    have ihx := ih (x + 1) (by omega) (by omega)
    refine .step (fun _ => rfl) (.pos ?_ (.neg (by omega) (.pos ?_ (.pos ?_ ?_))))
    · rw [wr (by omega) (by omega)]; omega
    · rw [tmod_pos _ _ (by omega)]; exact m0
    · rw [tmod_pos _ _ (by omega)]; exact m1
    · rw [tmod_pos _ _ (show 0 ≤ x by omega), wr (x := x + 1) (by omega) (by omega)]
      show E _ (slotB t x (rd_T51 l (x % (l.length : Int))) && allB t l d (x + 1))
      generalize rd_T51 l (x % (l.length : Int)) = q
      unfold slotB
      by_cases c : x < t
      · refine .pos c ?_
        rw [if_pos c]
        by_cases e : q.f0 = x + 1
        · refine .pos e (.bind (.of fun _ => within_eq q.f1 0 255) ?_)
          by_cases g : 0 ≤ q.f1 ∧ q.f1 ≤ 255
          · refine .pos (by simpa using g) (.neg (by omega) ?_)
            simpa [e, g.1, g.2] using ihx
          · refine .neg (by simpa using g) (.of fun _ => ?_)
            have : (decide (0 ≤ q.f1) && decide (q.f1 ≤ 255)) = false := by simpa using g
            rw [this, Bool.and_false, Bool.false_and]
        · refine .neg e (.of fun _ => ?_)
          simp [e]
      · refine .neg c (.pos (by omega) ?_)
        rw [if_neg c]
        by_cases e : (q.f0 == x && q.f1 == 0) = true
        · rw [e, Bool.true_and]
          refine .neg ?_ ihx
          simp only [Bool.and_eq_true] at e
          simp [e.1, e.2]
        · have e' : (q.f0 == x && q.f1 == 0) = false := by simpa using e
          rw [e', Bool.false_and]
          refine .pos ?_ (.mk _)
          rw [← Bool.not_and, e']
          rfl
theorem ok_spec (h t : Int) (l : List S51) (hl : l.length ≤ 1048576) : E (fun k => spec_RingOk.f k h t l) (ringB h t l) := by
  have no : ∀ n : Int, ¬ shapeP h t l → E (fun k => spec_RingOk.j0 k n true h t l) (ringB h t l) := fun n s => by
    rw [ringB_no s]
    exact .step (fun _ => rfl) (.of fun _ => rfl)
  unfold spec_RingOk.f
  refine .ite (fun g => no _ (fun s => by have := s.1; omega)) (fun g1 => .ite (fun g => no _ (fun s => by have := s.2.1; omega)) (fun g2 => .ite (fun g => no _ (fun s => by have := s.2.2.1; omega)) (fun g3 =>
    .ite (fun g => no _ (fun s => by have := s.2.2.2.1; omega)) (fun g4 => .ite (fun g => no _ (fun s => by have := s.2.2.2.2.1; omega)) (fun g5 => ?_)))))
  rw [wr (x := h + (l.length : Int)) (by omega) (by omega)]
  by_cases g : t > h + (l.length : Int)
  · rw [decide_eq_true g]
    exact no _ (fun s => by have := s.2.2.2.2.2; omega)
  · rw [decide_eq_false g]
    have s : shapeP h t l := ⟨by omega, by omega, by omega, by omega, by omega, by omega⟩
    rw [ringB_yes s]
    exact .step (fun _ => rfl) (ok_spec_l h t l s l.length h (by omega) (by omega))
theorem ok_isring (h t : Int) (l : List S51) (hl : l.length ≤ 1048576) : E (fun k => impl_isRing.f k h t l) (ringB h t l) := by
  have no : ∀ n : Int, ¬ shapeP h t l → E (fun k => impl_isRing.j0 k n true h t l) (ringB h t l) := fun n s => by
    rw [ringB_no s]
    exact .step (fun _ => rfl) (.of fun _ => rfl)
  unfold impl_isRing.f
  refine .bind (.of fun _ => within_eq _ _ _) (.ite (fun g1 => .bind (.of fun _ => within_eq _ _ _) (.ite (fun g2 => .bind (.of fun _ => within_eq _ _ _) ?_) (fun g => no _ (fun s => by obtain ⟨s1, s2, s3, s4, s5, s6⟩ := s; simp at g; omega)))) (fun g => no _ (fun s => by obtain ⟨s1, s2, s3, s4, s5, s6⟩ := s; simp at g; omega)))
  simp only [decide_eq_true_eq] at g1 g2
  rw [wr (x := t - (l.length : Int)) (by omega) (by omega)]
  have em : mx 0 (t - (l.length : Int)) ≤ h ∧ h ≤ t ↔ shapeP h t l := by
    unfold mx shapeP
    split <;> constructor <;> intro q <;> omega
  by_cases s : shapeP h t l
  · rw [decide_eq_true (em.2 s), ringB_yes s]
    exact .step (fun _ => rfl) (ok_impl_l h t l s l.length h (by omega) (by omega))
  · rw [decide_eq_false (fun q => s (em.1 q))]
    exact no _ s
/-- Is one of the d elements from x on in that slot? -/
def turnL (n slot : Int) : Nat → Int → Int
  | 0, _ => 0
  | d + 1, x => if x % n = slot then 1 else turnL n slot d (x + 1)
def turnR (h t : Int) (l : List S51) (slot : Int) : Int := if ringB h t l = true ∧ 0 ≤ slot ∧ slot < l.length then turnL l.length slot (t - h).toNat h else -1
theorem turn_spec_l (h t : Int) (l : List S51) (s : shapeP h t l) (slot : Int) (d : Nat) : ∀ x : Int, h ≤ x → x + d = t → E (fun k => spec_RingTurn.l0 k slot x h t l) (turnL l.length slot d x) := by
  obtain ⟨s1, s2, s3, s4, s5, s6⟩ := s
  induction d with
  | zero => exact fun x h0 hx => .step (fun _ => rfl) (.neg (by omega) (.mk _))
  | succ d ih =>
    intro x h0 hx
    refine .step (fun _ => rfl) (.pos (by omega) (.neg (by omega) ?_))
    rw [tmod_pos _ _ (show 0 ≤ x by omega), wr (x := x + 1) (by omega) (by omega)]
    show E _ (if x % (l.length : Int) = slot then 1 else turnL l.length slot d (x + 1))
    by_cases e : x % (l.length : Int) = slot
    · rw [if_pos e]; exact .pos e (.mk _)
    · rw [if_neg e]; exact .neg e (ih (x + 1) (by omega) (by omega))
theorem turn_impl_l (h t : Int) (l : List S51) (s : shapeP h t l) (slot : Int) (d : Nat) : ∀ x : Int, h ≤ x → x + d = t → E (fun k => impl_RingTurn.l0 k slot l.length x h t l) (turnL l.length slot d x) := by
  obtain ⟨s1, s2, s3, s4, s5, s6⟩ := s
  induction d with
  | zero => exact fun x h0 hx => .step (fun _ => rfl) (.neg (by omega) (.mk _))
  | succ d ih =>
    intro x h0 hx
    refine .step (fun _ => rfl) (.pos (by omega) (.neg (by omega) ?_))
    rw [tmod_pos _ _ (show 0 ≤ x by omega), wr (x := x + 1) (by omega) (by omega)]
    show E _ (if x % (l.length : Int) = slot then 1 else turnL l.length slot d (x + 1))
    by_cases e : x % (l.length : Int) = slot
    · rw [if_pos e]; exact .pos e (.mk _)
    · rw [if_neg e]; exact .neg e (ih (x + 1) (by omega) (by omega))
theorem turn_spec (h t : Int) (l : List S51) (slot : Int) (hl : l.length ≤ 1048576) : E (fun k => spec_RingTurn.f k h t l slot) (turnR h t l slot) := by
  have no : ¬ (ringB h t l = true ∧ 0 ≤ slot ∧ slot < l.length) → E (fun k => spec_RingTurn.j0 k slot true h t l) (turnR h t l slot) := fun s => by
    rw [show turnR h t l slot = -1 from if_neg s]
    exact .step (fun _ => rfl) (.of fun _ => rfl)
  unfold spec_RingTurn.f
  refine .bind (ok_spec h t l hl) (.ite (fun g => .ite (fun g1 => no (by omega)) (fun g1 => ?_)) (fun g => no (fun s => g s.1)))
  by_cases g2 : slot ≥ (l.length : Int)
  · rw [decide_eq_true g2]; exact no (by omega)
  · rw [decide_eq_false g2, show turnR h t l slot = turnL l.length slot (t - h).toNat h from if_pos ⟨g, by omega, by omega⟩]
    have s := ringB_shape g
    have s' := s
    obtain ⟨s1, s2, s3, s4, s5, s6⟩ := s'
    exact .step (fun _ => rfl) (turn_spec_l h t l s slot _ h (by omega) (by omega))
theorem turn_impl (h t : Int) (l : List S51) (slot : Int) (hl : l.length ≤ 1048576) : E (fun k => impl_RingTurn.f k h t l slot) (turnR h t l slot) := by
  have no : ∀ n : Int, ¬ (ringB h t l = true ∧ 0 ≤ slot ∧ slot < l.length) → E (fun k => impl_RingTurn.j0 k slot n true h t l) (turnR h t l slot) := fun n s => by
    rw [show turnR h t l slot = -1 from if_neg s]
    exact .step (fun _ => rfl) (.of fun _ => rfl)
  unfold impl_RingTurn.f
  refine .bind (ok_isring h t l hl) (.ite (fun g => .bind (.of fun _ => within_eq _ _ _) ?_) (fun g => no _ (fun s => g s.1)))
  have s := ringB_shape g
  have s' := s
  obtain ⟨s1, s2, s3, s4, s5, s6⟩ := s'
  rw [wr (x := (l.length : Int) - 1) (by omega) (by omega)]
  by_cases g2 : 0 ≤ slot ∧ slot ≤ (l.length : Int) - 1
  · rw [decide_eq_true g2, show turnR h t l slot = turnL l.length slot (t - h).toNat h from if_pos ⟨g, by omega, by omega⟩]
    exact .step (fun _ => rfl) (turn_impl_l h t l s slot _ h (by omega) (by omega))
  · rw [decide_eq_false g2]
    exact no _ (by omega)
theorem FnExactRingTurn (a b : Int) (l : List S66) (slot : Int) (_ : (Lit.int .i64 a).wf = true) (_ : (Lit.int .i64 b).wf = true) (hm : l.length ≤ maxLen) (_ : ∀ x ∈ l, (Lit.int .i64 x.f0).wf = true ∧ (Lit.int .i64 x.f1).wf = true) (_ : (Lit.int .i64 slot).wf = true) : ∃ k, laws_FnExactRingTurn.f k a b l slot = some true := by
  refine E.out (?_ : E (fun k => laws_FnExactRingTurn.f k a b l slot) true)
  unfold laws_FnExactRingTurn.f
  refine .bind (.of fun _ => sz_f a b l hm) ?_
  by_cases hl : l.length ≤ 1048576
  · rw [if_pos hl]
    have hl' : (toS l).length ≤ 1048576 := by rw [toS_len]; exact hl
    exact .neg (by omega) (.bind (toring_f a b l hl) (.bind (turn_spec _ _ _ _ hl') (.bind (toring_f a b l hl) (.bind (turn_impl _ _ _ _ hl') (.pos rfl (.bind (toring_f a b l hl) (.bind (eqring_f _ _ _ hl') (.pos rfl (.mk _)))))))))
  · rw [if_neg hl]
    exact .pos (by omega) (.mk _)
end Go.Proofs.Ytcphdfjoodebiaa.Pure
