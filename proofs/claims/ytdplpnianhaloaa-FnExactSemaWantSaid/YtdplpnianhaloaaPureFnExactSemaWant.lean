/- FnExactSemaWant: over numbers alone the program's SemaWant and the reference's give the same semaphore and code. No condition beyond the kinds of the numbers. -/
import Derived.Test.YtdplpnianhaloaaQFnExactSemaWantx2
import Derived.Test.YtdplpnianhaloaaPK
set_option linter.unusedVariables false
set_option linter.unusedSimpArgs false
namespace Go.Proofs.Ytdplpnianhaloaa.Pure
open Go.RowKit Go.Proofs.Ytdplpnianhaloaa.PFnExactSemaWant Go.Proofs.YtdplpnianhaloaaW.PrintWords Go.Proofs.YtdplpnianhaloaaW.PrintLast Go.Proofs.YtdplpnianhaloaaW.PrintMore
open Go.Proofs.Ytdplpnianhaloaa.PK (wr i64b u32b u8b tmod_pos tdiv_pos or_comm')
open Go.Proofs.Ytdplpnianhaloaa.PK renaming Ev → E
def okB (a b c : Int) : Bool := decide (0 ≤ a ∧ a ≤ 1000 ∧ 0 ≤ b ∧ b ≤ 1000 ∧ 0 ≤ c ∧ c ≤ 1000 ∧ c ≤ a + b)
theorem okB_t {a b c : Int} : okB a b c = true ↔ 0 ≤ a ∧ a ≤ 1000 ∧ 0 ≤ b ∧ b ≤ 1000 ∧ 0 ≤ c ∧ c ≤ 1000 ∧ c ≤ a + b := by simp [okB]
theorem num_eq (a : Int) : spec_l11Num.f a = some (decide (0 ≤ a ∧ a ≤ 1000)) := by
  unfold spec_l11Num.f
  by_cases h : a ≥ 0
  · have : 0 ≤ a := h
    simp [this]
  · have : ¬ 0 ≤ a := h
    simp [this]
theorem ok_eq (a b c : Int) : spec_SemaOk.f a b c = some (okB a b c) := by
  unfold spec_SemaOk.f
  simp only [num_eq, Option.bind_some, decide_eq_true_eq]
  by_cases h1 : 0 ≤ a ∧ a ≤ 1000
  · by_cases h2 : 0 ≤ b ∧ b ≤ 1000
    · by_cases h3 : 0 ≤ c ∧ c ≤ 1000
      · rw [if_pos h1, if_pos h2, if_pos h3, wr (by omega) (by omega), Option.some.injEq, Bool.eq_iff_iff, okB_t, decide_eq_true_eq]
        omega
      · rw [if_pos h1, if_pos h2, if_neg h3, Option.some.injEq, Bool.eq_iff_iff, okB_t]
        simp only [Bool.false_eq_true, false_iff]
        omega
    · rw [if_pos h1, if_neg h2, Option.some.injEq, Bool.eq_iff_iff, okB_t]
      simp only [Bool.false_eq_true, false_iff]
      omega
  · rw [if_neg h1, Option.some.injEq, Bool.eq_iff_iff, okB_t]
    simp only [Bool.false_eq_true, false_iff]
    omega
theorem within_eq (a b c : Int) : impl_within.f a b c = some (decide (b ≤ a ∧ a ≤ c)) := by
  unfold impl_within.f
  by_cases h : a ≥ b
  · have : b ≤ a := h
    simp [this]
  · have : ¬ b ≤ a := h
    simp [this]
theorem is_eq (a b c : Int) : impl_isSema.f a b c = some (okB a b c) := by
  rw [← ok_eq]
  unfold impl_isSema.f spec_SemaOk.f
  simp only [num_eq, within_eq]
theorem one_eq (a : Int) : spec_l11One.f a = some (decide (1 ≤ a ∧ a ≤ 1000)) := by
  unfold spec_l11One.f
  by_cases h : a ≥ 1
  · have : 1 ≤ a := h
    simp [this]
  · have : ¬ 1 ≤ a := h
    simp [this]
theorem left_spec (a b c : Int) : spec_SemaLeft.f a b c = some (if okB a b c = true then wrap64 (wrap64 (a + b) - c) else -1) := by
  unfold spec_SemaLeft.f
  rw [ok_eq]
  by_cases h : okB a b c = true <;> simp [h]
/-- What a request comes to, once its numbers are in range. -/
def wantIn (a b c n m : Int) : Int × Int × Int × Int :=
  if a - c ≥ n then (if okB (a - n) b c = true then (a - n, b, c, 1) else (0, 0, 0, 0))
  else if a + b - c ≥ n then (if okB a b (c + n) = true then (a, b, c + n, 2) else (0, 0, 0, 0))
  else if m ≥ n then (if okB a (b + m) (c + n) = true then (a, b + m, c + n, 3) else (0, 0, 0, 0)) else (0, 0, 0, 0)
def want (a b c n m : Int) : Int × Int × Int × Int := if okB a b c = true ∧ (1 ≤ n ∧ n ≤ 1000) ∧ 1 ≤ m ∧ m ≤ 1000 then wantIn a b c n m else (0, 0, 0, 0)
theorem want_no {a b c n m : Int} (h : ¬ (okB a b c = true ∧ (1 ≤ n ∧ n ≤ 1000) ∧ 1 ≤ m ∧ m ≤ 1000)) : want a b c n m = (0, 0, 0, 0) := if_neg h
theorem E_ite {α : Type} {c : Prop} [Decidable c] {g h : Nat → Option α} {r s : α} (a : c → E g r) (b : ¬ c → E h s) : E (fun n => if c then g n else h n) (if c then r else s) := by
  by_cases hc : c
  · rw [if_pos hc]; exact .pos hc (a hc)
  · rw [if_neg hc]; exact .neg hc (b hc)
theorem want_spec (a b c n m : Int) : E (fun k => spec_SemaWant.f k a b c n m) (want a b c n m) := by
  unfold spec_SemaWant.f
  refine .bind (.of fun _ => ok_eq a b c) ?_
  by_cases h1 : okB a b c = true
  · have q := okB_t.1 h1
    refine .pos h1 (.bind (.of fun _ => one_eq n) ?_)
    by_cases h2 : 1 ≤ n ∧ n ≤ 1000
    · refine .pos (by simpa using h2) (.bind (.of fun _ => one_eq m) (.step (fun _ => rfl) ?_))
      simp only [spec_SemaWant.j0]
      by_cases h3 : 1 ≤ m ∧ m ≤ 1000
      · rw [show want a b c n m = wantIn a b c n m from if_pos ⟨h1, h2, h3⟩]
        refine .neg (by simp; omega) ?_
        rw [wr (x := a - c) (by omega) (by omega), wr (x := a - n) (by omega) (by omega), wr (x := c + n) (by omega) (by omega), wr (x := b + m) (by omega) (by omega)]
        simp only [ok_eq, left_spec, Option.bind_some]
        rw [if_pos h1, wr (x := a + b) (by omega) (by omega), wr (x := a + b - c) (by omega) (by omega)]
        unfold wantIn
        refine .of fun _ => ?_
        split
        · simp
          split <;> rfl
        · split
          · simp
            split <;> rfl
          · split
            · simp
              split <;> rfl
            · simp
      · rw [want_no (fun h => h3 h.2.2)]
        exact .pos (by simp; omega) (.mk _)
    · rw [want_no (fun h => h2 h.2.1)]
      refine .neg (by simpa using h2) (.step (fun _ => rfl) (.of fun _ => rfl))
  · rw [want_no (fun h => h1 h.1)]
    exact .neg h1 (.step (fun _ => rfl) (.of fun _ => rfl))
theorem want_impl (a b c n m : Int) : E (fun k => impl_SemaWant.f k a b c n m) (want a b c n m) := by
  unfold impl_SemaWant.f
  refine .bind (.of fun _ => is_eq a b c) ?_
  by_cases h1 : okB a b c = true
  · have q := okB_t.1 h1
    refine .pos h1 (.bind (.of fun _ => within_eq n 1 1000) ?_)
    by_cases h2 : 1 ≤ n ∧ n ≤ 1000
    · refine .pos (by simpa using h2) (.bind (.of fun _ => within_eq m 1 1000) (.step (fun _ => rfl) ?_))
      simp only [impl_SemaWant.j0]
      by_cases h3 : 1 ≤ m ∧ m ≤ 1000
      · rw [show want a b c n m = wantIn a b c n m from if_pos ⟨h1, h2, h3⟩]
        refine .neg (by simp; omega) ?_
        rw [wr (x := a - c) (by omega) (by omega), wr (x := a - n) (by omega) (by omega), wr (x := c + n) (by omega) (by omega), wr (x := b + m) (by omega) (by omega), wr (x := a + b) (by omega) (by omega), wr (x := a + b - c) (by omega) (by omega)]
        simp only [is_eq, Option.bind_some]
        unfold wantIn
        refine .of fun _ => ?_
        split
        · split <;> rfl
        · split
          · split <;> rfl
          · split
            · split <;> rfl
            · rfl
      · rw [want_no (fun h => h3 h.2.2)]
        exact .pos (by simp; omega) (.mk _)
    · rw [want_no (fun h => h2 h.2.1)]
      refine .neg (by simpa using h2) (.step (fun _ => rfl) (.of fun _ => rfl))
  · rw [want_no (fun h => h1 h.1)]
    exact .neg h1 (.step (fun _ => rfl) (.of fun _ => rfl))
theorem FnExactSemaWant (a b c n m : Int) (_ : (Lit.int .i64 a).wf = true) (_ : (Lit.int .i64 b).wf = true) (_ : (Lit.int .i64 c).wf = true) (_ : (Lit.int .i64 n).wf = true) (_ : (Lit.int .i64 m).wf = true) : ∃ k, laws_FnExactSemaWant.f k a b c n m = some true := by
  refine E.out (?_ : E (fun k => laws_FnExactSemaWant.f k a b c n m) true)
  unfold laws_FnExactSemaWant.f
  refine .bind (.of fun _ => rfl) (.bind (want_spec a b c n m) (.bind (.of fun _ => rfl) (.bind (want_impl a b c n m) ?_)))
  generalize want a b c n m = w
  unfold laws_eqSema.f
  exact .of fun _ => by simp
end Go.Proofs.Ytdplpnianhaloaa.Pure
