/- What an argument that can be read as data is in plain words: slices of plain elements, structs of whole numbers. -/
import Derived.Test.YtcphdfjoodebiaaAHR
import Derived.Deep.Slices
import Derived.ChangeArms
set_option linter.unusedVariables false
set_option linter.unusedSimpArgs false
namespace Go.AH
open Go.RowKit Go.Deep
/-- Whatever reads as data of type e is f x for an x that meets ok. -/
def TellsV {α : Type} (P : Program) (e : TypeId) (s : Nat) (f : α → List Value) (ok : α → Prop) : Prop :=
  P.cellsOf e = s ∧ (∀ x, (f x).length = s) ∧ ∀ {H : Type} {enc : TypeId × Value → H} {w : World} {sp : Nat → Bool} {fuel : Nat} {cs : List Value} {y : DataW H × List MemPlace}, DataW.trod enc P w 0 sp true fuel e cs = some y → ∃ x, cs = f x ∧ ok x
section
variable {P : Program}
theorem TellsV.int {t : TypeId} {k : IntKind} (ht : P.underlying t = some (.int k)) (hc : P.cellsOf t = 1) : TellsV P t 1 (fun a : Int => [.int k a]) (fun a => (Lit.int k a).wf = true) :=
  ⟨hc, fun _ => rfl, fun h => by
    obtain ⟨n, rfl, _, hw⟩ := DataW.trod_int ht h
    exact ⟨n, rfl, hw⟩⟩
theorem TellsV.pair {t : TypeId} {f0 f1 : Field} {k0 k1 : IntKind} (ht : P.underlying t = some (.struct #[f0, f1])) (hc : P.cellsOf t = 2) (h0 : P.underlying f0.type = some (.int k0)) (h1 : P.underlying f1.type = some (.int k1)) (o0 : f0.offset = 0) (o1 : f1.offset = 1) (c0 : P.cellsOf f0.type = 1) (c1 : P.cellsOf f1.type = 1) :
    TellsV P t 2 (fun a : Int × Int => [.int k0 a.1, .int k1 a.2]) (fun a => (Lit.int k0 a.1).wf = true ∧ (Lit.int k1 a.2).wf = true) :=
  ⟨hc, fun _ => rfl, fun {H enc w sp fuel cs y} h => by
    obtain ⟨xs, n, _, _, hl, hlen, hg⟩ := DataW.trod_struct ht h
    rw [hc] at hl
    have g0 := hg 0 f0 rfl
    have g1 := hg 1 f1 rfl
    simp only [List.size_toArray, List.length_cons, List.length_nil] at hlen
    rw [List.getElem?_eq_getElem (by omega), o0, c0] at g0
    rw [List.getElem?_eq_getElem (by omega), o1, c1] at g1
    obtain ⟨a, e0, _, w0⟩ := DataW.trod_int h0 g0
    obtain ⟨b, e1, _, w1⟩ := DataW.trod_int h1 g1
    refine ⟨(a, b), ?_, w0, w1⟩
    match cs, hl with
    | [x, z], _ =>
      simp at e0 e1
      rw [e0, e1]⟩
theorem choose_list {α : Type} {Q : Nat → α → Prop} : ∀ n : Nat, (∀ i, i < n → ∃ x, Q i x) → ∃ xs : List α, xs.length = n ∧ ∀ i x, xs[i]? = some x → Q i x
  | 0, _ => ⟨[], rfl, fun i x h => by simp at h⟩
  | n + 1, h => by
    obtain ⟨xs, hl, hx⟩ := choose_list n (fun i hi => h i (by omega))
    obtain ⟨x, hq⟩ := h n (by omega)
    refine ⟨xs ++ [x], by simp [hl], fun i y hy => ?_⟩
    rw [List.getElem?_append] at hy
    split at hy
    · exact hx i y hy
    · rename_i hlt
      have : i = n := by
        by_cases e : i - xs.length = 0
        · omega
        · rw [List.getElem?_eq_none (by simp; omega)] at hy
          cases hy
      subst this
      rw [show i - xs.length = 0 by omega] at hy
      simp at hy
      subst hy
      exact hq
theorem flat_get {α : Type} {f : α → List Value} {s : Nat} (hf : ∀ x, (f x).length = s) : ∀ (xs : List α) (j : Nat) (v : Value), (xs.flatMap f)[j]? = some v → ∃ i x k, xs[i]? = some x ∧ (f x)[k]? = some v ∧ j = i * s + k ∧ k < s
  | [], j, v, h => by simp at h
  | x :: xs, j, v, h => by
    simp only [List.flatMap_cons] at h
    rcases Nat.lt_or_ge j (f x).length with hj | hj
    · rw [List.getElem?_append_left hj] at h
      exact ⟨0, x, j, rfl, h, by omega, by rw [← hf x]; exact hj⟩
    · rw [List.getElem?_append_right hj] at h
      obtain ⟨i, y, k, h1, h2, h3, h4⟩ := flat_get hf xs _ v h
      have := hf x
      exact ⟨i + 1, y, k, by simpa using h1, h2, by rw [Nat.add_mul]; omega, h4⟩
theorem open_row {α : Type} {t e : TypeId} {s : Nat} {f : α → List Value} {ok : α → Prop} (ht : P.underlying t = some (.slice e)) (hs : 0 < s) (h : TellsV P e s f ok) {H : Type} {enc : TypeId × Value → H} {w : World} {fuel : Nat} {cs : List Value} {y : DataW H × List MemPlace}
    (hy : DataW.trod enc P w 0 (fun _ => true) true fuel t cs = some y) : ∃ (v : Value) (xs : List α) (q : Option Pl), cs = [v] ∧ xs.length ≤ maxLen ∧ (∀ x ∈ xs, ok x) ∧ (∀ a, q = some a → a.block < w.heap.size) ∧
      (∀ (μ : Id → Option Pl) (i : Id), μ i = q → VR μ (.sl i 0 xs.length s) v) ∧ (∀ μ : Id → Option Pl, vals (xs.flatMap f) ≠ [] → ∃ a, q = some a ∧ At μ w a (vals (xs.flatMap f))) := by
  rcases open_slice ht hy with ⟨rfl, _⟩ | ⟨a, len, cap, m, n, D, Pl', rfl, _, hl, hm, hmm, _, hx⟩
  · exact ⟨_, [], none, rfl, by simp [maxLen], fun x hx => (by cases hx), fun a h => (by cases h), fun μ i _ => .nl, fun μ h => absurd rfl h⟩
  · simp only [if_true] at hmm
    subst hmm
    have hcell : ∀ i, i < m → ∃ c : List Value, c.length = s ∧ (∃ x, c = f x ∧ ok x) ∧ ∀ j, j < s → w.cell? (a.add (i * s + j)) = c[j]? := fun i hi => by
      obtain ⟨cs', hc, htr⟩ := hx i hi
      obtain ⟨_, hcl, hat⟩ := World.cells?_some hc
      rw [h.1] at hcl hat
      exact ⟨cs', hcl, h.2.2 htr, fun j hj => by rw [← hat j hj, Go.Deep.add_add]⟩
    obtain ⟨xs, hxl, hq⟩ := choose_list (Q := fun i x => ok x ∧ ∀ j, j < s → w.cell? (a.add (i * s + j)) = (f x)[j]?) len (fun i hi => by
      obtain ⟨c, h1, ⟨x, rfl, ho⟩, h3⟩ := hcell i (by omega)
      exact ⟨x, ho, h3⟩)
    have hok : ∀ x ∈ xs, ok x := fun x hx => by
      obtain ⟨j, hj⟩ := List.mem_iff_getElem?.1 hx
      exact (hq j x hj).1
    have hadd : ∀ j, a.spot = none → a.add j = ⟨a.block, a.off + j, none⟩ := fun j e => by
      obtain ⟨b, o, p⟩ := a
      simp only at e
      subst e
      simp [Addr.add]
    have hspot : 0 < m → a.spot = none ∧ a.block < w.heap.size := fun hm0 => by
      obtain ⟨c, h1, _, h3⟩ := hcell 0 hm0
      have := h3 0 hs
      rw [List.getElem?_eq_getElem (by omega)] at this
      unfold World.cell? at this
      split at this
      · rename_i hh
        split at this
        · cases this
        · rename_i hsp
          refine ⟨by simpa [Addr.add] using hsp, ?_⟩
          obtain ⟨hlt, _⟩ := Array.getElem?_eq_some_iff.1 hh
          simpa [Addr.add] using hlt
      · cases this
    rcases Nat.eq_zero_or_pos m with rfl | hmpos
    · obtain rfl : len = 0 := by omega
      have : xs = [] := List.eq_nil_of_length_eq_zero hxl
      subst this
      exact ⟨_, [], none, rfl, by simp [maxLen], hok, fun a h => (by cases h), fun μ i _ => .sl0 a, fun μ h => absurd rfl h⟩
    · obtain ⟨h1, h2⟩ := hspot hmpos
      refine ⟨_, xs, some ⟨a.block, a.off, m * s⟩, rfl, by omega, hok, fun b hb => (by cases hb; exact h2), fun μ i hi => ?_, fun μ _ => ⟨_, rfl, fun j z hz => ?_⟩⟩
      · have e : a = ⟨a.block, a.off + 0, none⟩ := by
          obtain ⟨b, o, p⟩ := a
          simp only at h1
          subst h1
          rfl
        rw [hxl]
        conv => arg 3; rw [e]
        exact .sl hi hl (by simp)
      · simp only [vals, List.getElem?_map, Option.map_eq_some_iff] at hz
        obtain ⟨v, hv, rfl⟩ := hz
        obtain ⟨i, x, k, e1, e2, rfl, e4⟩ := flat_get h.2.1 xs j v hv
        refine ⟨v, ?_, .v v⟩
        rw [← hadd _ h1, (hq i x e1).2 k e4, e2]
theorem wf_i64 {a : Int} (h : (Lit.int .i64 a).wf = true) : -9223372036854775808 ≤ a ∧ a < 9223372036854775808 := by
  simp only [Lit.wf, Bool.and_eq_true, decide_eq_true_eq] at h
  have e1 : IntKind.i64.min = -9223372036854775808 := by rfl
  have e2 : IntKind.i64.max = 9223372036854775807 := by rfl
  rw [e1, e2] at h
  omega
/-- A struct of two whole numbers and a slice. -/
theorem open_two {t e : TypeId} {α : Type} {s : Nat} {f : α → List Value} {ok : α → Prop} {f0 f1 f2 : Field} {k0 k1 : IntKind} (ht : P.underlying t = some (.struct #[f0, f1, f2])) (hc : P.cellsOf t = 3) (h0 : P.underlying f0.type = some (.int k0)) (h1 : P.underlying f1.type = some (.int k1)) (h2 : P.underlying f2.type = some (.slice e)) (o0 : f0.offset = 0) (o1 : f1.offset = 1) (o2 : f2.offset = 2) (c0 : P.cellsOf f0.type = 1) (c1 : P.cellsOf f1.type = 1) (c2 : P.cellsOf f2.type = 1) (hs : 0 < s) (h : TellsV P e s f ok)
    {H : Type} {enc : TypeId × Value → H} {w : World} {fuel : Nat} {cs : List Value} {y : DataW H × List MemPlace} (hy : DataW.trod enc P w 0 (fun _ => true) true fuel t cs = some y) :
    ∃ (a b : Int) (v : Value) (xs : List α) (q : Option Pl), cs = [.int k0 a, .int k1 b, v] ∧ (Lit.int k0 a).wf = true ∧ (Lit.int k1 b).wf = true ∧ xs.length ≤ maxLen ∧ (∀ x ∈ xs, ok x) ∧ (∀ a, q = some a → a.block < w.heap.size) ∧
      (∀ (μ : Id → Option Pl) (i : Id), μ i = q → VR μ (.sl i 0 xs.length s) v) ∧ (∀ μ : Id → Option Pl, vals (xs.flatMap f) ≠ [] → ∃ a, q = some a ∧ At μ w a (vals (xs.flatMap f))) := by
  obtain ⟨ys, n, _, _, hl, hlen, hg⟩ := DataW.trod_struct ht hy
  rw [hc] at hl
  have g0 := hg 0 f0 rfl
  have g1 := hg 1 f1 rfl
  have g2 := hg 2 f2 rfl
  simp only [List.size_toArray, List.length_cons, List.length_nil] at hlen
  rw [List.getElem?_eq_getElem (by omega), o0, c0] at g0
  rw [List.getElem?_eq_getElem (by omega), o1, c1] at g1
  rw [List.getElem?_eq_getElem (by omega), o2, c2] at g2
  obtain ⟨a, e0, _, w0⟩ := DataW.trod_int h0 g0
  obtain ⟨b, e1, _, w1⟩ := DataW.trod_int h1 g1
  obtain ⟨v, xs, q, e2, r1, r2, r3, r4, r5⟩ := open_row h2 hs h g2
  refine ⟨a, b, v, xs, q, ?_, w0, w1, r1, r2, r3, r4, r5⟩
  match cs, hl with
  | [x, z, u], _ =>
    simp at e0 e1 e2
    rw [e0, e1, e2]
end
end Go.AH
