/- Events read from bytes: what both sides reckon. -/
import Derived.Test.YtponfomfcmlfmaaLogOfPNum
import Derived.Test.YtponfomfcmlfmaaLogOfPEv
set_option linter.unusedVariables false
set_option linter.unusedSimpArgs false
namespace Go.Proofs.Ytponfomfcmlfmaa.LogOf
open Go.BH
set_option maxRecDepth 100000
theorem nrd_spec {xs : List Nat} {a n b : Nat} (hx : ∀ x ∈ xs, x < 256) (h : nrd xs a = some (n, b)) : n ≤ 65535 ∧ a < b ∧ b ≤ xs.length ∧ xs.take b = xs.take a ++ nb n := by
  unfold nrd at h
  cases e0 : xs[a]? with
  | none => rw [e0] at h; cases h
  | some b0 =>
    rw [e0] at h
    have l0 : a < xs.length := (List.getElem?_eq_some_iff.1 e0).1
    have g0 := hx b0 (List.mem_of_getElem? e0)
    have t1 : xs.take (a + 1) = xs.take a ++ [b0] := by rw [List.take_add_one, e0]; rfl
    simp only at h
    by_cases c0 : b0 < 128
    · rw [if_pos c0] at h
      cases h
      refine ⟨by omega, by omega, by omega, ?_⟩
      rw [t1, nb, if_pos c0]
    · rw [if_neg c0] at h
      cases e1 : xs[a + 1]? with
      | none => rw [e1] at h; cases h
      | some b1 =>
        rw [e1] at h
        have l1 : a + 1 < xs.length := (List.getElem?_eq_some_iff.1 e1).1
        have g1 := hx b1 (List.mem_of_getElem? e1)
        have t2 : xs.take (a + 2) = xs.take a ++ [b0, b1] := by rw [List.take_add_one, e1, t1]; simp
        simp only at h
        by_cases c1 : b1 < 128
        · rw [if_pos c1] at h
          by_cases z : b1 = 0
          · rw [if_pos z] at h; cases h
          · rw [if_neg z] at h
            cases h
            refine ⟨by omega, by omega, by omega, ?_⟩
            rw [t2, nb, if_neg (by omega), if_pos (by omega)]
            have q1 : 128 + (b0 % 128 + 128 * b1) % 128 = b0 := by omega
            have q2 : (b0 % 128 + 128 * b1) / 128 = b1 := by omega
            rw [q1, q2]
        · rw [if_neg c1] at h
          cases e2 : xs[a + 2]? with
          | none => rw [e2] at h; cases h
          | some b2 =>
            rw [e2] at h
            have l2 : a + 2 < xs.length := (List.getElem?_eq_some_iff.1 e2).1
            have t3 : xs.take (a + 3) = xs.take a ++ [b0, b1, b2] := by rw [List.take_add_one, e2, t2]; simp
            simp only at h
            split at h
            · rename_i c2
              cases h
              obtain ⟨c2, c3, c4⟩ := c2
              refine ⟨c4, by omega, by omega, ?_⟩
              rw [t3, nb, if_neg (by omega), if_neg (by omega)]
              have q1 : 128 + (b0 % 128 + 128 * (b1 % 128) + 16384 * b2) % 128 = b0 := by omega
              have q2 : 128 + (b0 % 128 + 128 * (b1 % 128) + 16384 * b2) / 128 % 128 = b1 := by omega
              have q3 : (b0 % 128 + 128 * (b1 % 128) + 16384 * b2) / 16384 = b2 := by omega
              rw [q1, q2, q3]
            · cases h
/-- m numbers, one less each, behind those read so far. -/
def rdN (xs : List Nat) : Nat → Nat → List Int → Option (List Int × Nat)
  | 0, a, acc => some (acc, a)
  | m + 1, a, acc => match nrd xs a with
    | none => none
    | some (n, b) => rdN xs m b (acc ++ [(n : Int) - 1])
theorem rdN_spec {xs : List Nat} (hx : ∀ x ∈ xs, x < 256) : ∀ {m a : Nat} {acc vs : List Int} {b : Nat}, rdN xs m a acc = some (vs, b) → a ≤ xs.length → a ≤ b ∧ b ≤ xs.length ∧ vs.length = acc.length + m ∧ ∃ r, vs = acc ++ r ∧ xs.take b = xs.take a ++ vb r
  | 0, a, acc, vs, b, h, hl => by
    cases h
    exact ⟨Nat.le_refl _, hl, rfl, [], by simp, by simp [vb]⟩
  | m + 1, a, acc, vs, b, h, hl => by
    unfold rdN at h
    split at h
    · cases h
    · rename_i n c hn
      obtain ⟨k1, k2, k3, k4⟩ := nrd_spec hx hn
      obtain ⟨g1, g2, g3, r, g4, g5⟩ := rdN_spec hx h k3
      refine ⟨by omega, g2, by simp at g3; omega, ((n : Int) - 1) :: r, by rw [g4]; simp, ?_⟩
      rw [g5, k4]
      have : ((n : Int) - 1 + 1).toNat = n := by omega
      simp [vb, this]
structure Ev where
  k : Int
  w : Int
  n : Int
  rk : Int
  vs : List Int
def Ev.ok (e : Ev) : Bool := evOk e.k e.w e.n e.rk e.vs
def Ev.by (e : Ev) : List Nat := eb e.k e.w e.n e.rk e.vs
def Ev.ds (e : Ev) : List D := [.i e.k, .i e.w, .i e.n, .i e.rk, LI e.vs]
/-- What is read, before it is asked whether it is valid and whole. -/
def epre (xs : List Nat) : Option (Ev × Nat) := match nrd xs 1 with
  | none => none
  | some (n, a) => if xs[0]? = some 3 then some (⟨3, 0, n, 0, []⟩, a) else if xs[0]? = some 1 then (match xs[a]? with
    | none => none
    | some q => match rdN xs 8 (a + 1) [] with
      | none => none
      | some (vs, b) => some (⟨1, n, 0, q, vs⟩, b)) else some (⟨(((xs[0]?).getD 0 : Nat) : Int), n, 0, 0, []⟩, a)
def erd (xs : List Nat) : Option Ev := match epre xs with
  | none => none
  | some (e, a) => if a = xs.length ∧ e.ok = true then some e else none
def erR : Option Ev → List D
  | none => [.b false, .i 0, .i 0, .i 0, .i 0, LI []]
  | some e => .b true :: e.ds
theorem nrd1 {xs : List Nat} {p : Nat × Nat} (hx : ∀ x ∈ xs, x < 256) (h : nrd xs 1 = some p) : ∃ x0, xs[0]? = some x0 ∧ x0 < 256 ∧ 0 < xs.length := by
  obtain ⟨n, b⟩ := p
  obtain ⟨h1, h2, h3, h4⟩ := nrd_spec hx h
  have : 0 < xs.length := by omega
  exact ⟨xs[0], List.getElem?_eq_getElem this, hx _ (List.getElem_mem this), this⟩
theorem epre_spec {xs : List Nat} {e : Ev} {a : Nat} (hx : ∀ x ∈ xs, x < 256) (h : epre xs = some (e, a)) : a ≤ xs.length ∧ e.vs.length ≤ 8 ∧ (e.ok = true → e.by = xs.take a) := by
  unfold epre at h
  cases hn : nrd xs 1 with
  | none => rw [hn] at h; cases h
  | some p =>
    obtain ⟨n, b⟩ := p
    rw [hn] at h
    obtain ⟨x0, e0, g0, l0⟩ := nrd1 hx hn
    obtain ⟨k1, k2, k3, k4⟩ := nrd_spec hx hn
    have t1 : xs.take 1 = [x0] := by rw [List.take_add_one, e0]; rfl
    rw [t1] at k4
    simp only [e0] at h
    by_cases c3 : x0 = 3
    · subst c3
      rw [if_pos rfl] at h
      cases h
      refine ⟨k3, by simp, fun _ => ?_⟩
      rw [k4]
      simp [Ev.by, eb]
    · rw [if_neg (by simpa using c3)] at h
      by_cases c1 : x0 = 1
      · subst c1
        rw [if_pos rfl] at h
        cases eq : xs[b]? with
        | none => rw [eq] at h; cases h
        | some q =>
          rw [eq] at h
          simp only at h
          have lq : b < xs.length := (List.getElem?_eq_some_iff.1 eq).1
          split at h
          · cases h
          · rename_i vs c hr
            cases h
            obtain ⟨g1, g2, g3, r, g4, g5⟩ := rdN_spec hx hr (by omega)
            simp only [List.nil_append] at g4
            subst g4
            refine ⟨g2, by simp at g3; simp; omega, fun _ => ?_⟩
            rw [g5, List.take_add_one, eq, k4]
            simp [Ev.by, eb]
      · rw [if_neg (by simpa using c1)] at h
        cases h
        refine ⟨k3, by simp, fun ho => ?_⟩
        rw [k4]
        have : x0 = 2 := by
          rcases evOk_spec ho with ⟨h, _⟩ | ⟨h, _⟩ | ⟨h, _⟩ <;> simp at h <;> omega
        subst this
        simp [Ev.by, eb]
theorem nrR_none : nrR none = [.i 0, .i 0, .b false] := rfl
theorem nrR_some {n j : Nat} : nrR (some (n, j)) = [.i n, .i j, .b true] := rfl
theorem txt_dec {xs ys : List Nat} (hx : ∀ n ∈ xs, n < 256) (hy : ∀ n ∈ ys, n < 256) : (decide (txt xs = txt ys)) = decide (xs = ys) := by
  simp only [txt_eq hx hy]
theorem take_all_iff {xs : List Nat} {a : Nat} (h : a ≤ xs.length) : (xs.take a = xs) ↔ a = xs.length := by
  constructor
  · intro e
    have := congrArg List.length e
    rw [List.length_take] at this
    omega
  · intro e
    rw [e, List.take_length]
end Go.Proofs.Ytponfomfcmlfmaa.LogOf
