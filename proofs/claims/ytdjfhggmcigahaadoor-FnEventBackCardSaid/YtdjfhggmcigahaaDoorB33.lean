/- Tables, told once for a program. -/
import Derived.Test.YtdjfhggmcigahaaDoorB32
set_option linter.unusedVariables false
set_option linter.unusedSimpArgs false
namespace Go.BH
open Go.RowKit
abbrev ki8 : CK := .int .i8
abbrev ki16 : CK := .int .i16
abbrev ki32 : CK := .int .i32
abbrev ki64 : CK := .int .i64
abbrev ku8 : CK := .int .u8
abbrev ku16 : CK := .int .u16
abbrev ku32 : CK := .int .u32
abbrev ku64 : CK := .int .u64
abbrev kb : CK := .bool
abbrev ks : CK := .str
def valB : Value → Value → Bool
  | .int k n, .int k' n' => decide (k = k') && decide (n = n')
  | .bool b, .bool c => decide (b = c)
  | .string s, .string t => u8sB s.data.toList t.data.toList
  | .slice none a b, .slice none c d => Nat.beq a c && Nat.beq b d
  | .pointer none, .pointer none => true
  | .nilFunc, .nilFunc => true
  | .nilIface, .nilIface => true
  | _, _ => false
theorem valB_eq {a b : Value} (h : valB a b = true) : a = b := by
  unfold valB at h
  split at h
  · simp only [Bool.and_eq_true, decide_eq_true_eq] at h
    rw [h.1, h.2]
  · rw [of_decide_eq_true h]
  · rename_i s t
    have := Array.toList_inj.1 (u8sB_eq h)
    rw [show s = t from ByteArray.ext this]
  · simp only [Bool.and_eq_true] at h
    rw [Nat.eq_of_beq_eq_true h.1, Nat.eq_of_beq_eq_true h.2]
  · rfl
  · rfl
  · rfl
  · cases h
def valsB : List Value → List Value → Bool
  | [], [] => true
  | x :: xs, y :: ys => valB x y && valsB xs ys
  | _, _ => false
theorem valsB_eq : ∀ {a b : List Value}, valsB a b = true → a = b
  | [], [], _ => rfl
  | [], _ :: _, h => by simp [valsB] at h
  | _ :: _, [], h => by simp [valsB] at h
  | x :: xs, y :: ys, h => by
    simp only [valsB, Bool.and_eq_true] at h
    rw [valB_eq h.1, valsB_eq h.2]
def fldsB : List (TypeId × Nat) → List (TypeId × Nat) → Bool
  | [], [] => true
  | (a, b) :: xs, (c, d) :: ys => Nat.beq a c && Nat.beq b d && fldsB xs ys
  | _, _ => false
theorem fldsB_eq : ∀ {a b : List (TypeId × Nat)}, fldsB a b = true → a = b
  | [], [], _ => rfl
  | [], _ :: _, h => by simp [fldsB] at h
  | _ :: _, [], h => by simp [fldsB] at h
  | (a, b) :: xs, (c, d) :: ys, h => by
    simp only [fldsB, Bool.and_eq_true] at h
    rw [Nat.eq_of_beq_eq_true h.1.1, Nat.eq_of_beq_eq_true h.1.2, fldsB_eq h.2]
def kindB : TyK → TyK → Bool
  | .slice a, .slice b => Nat.beq a b
  | .struct a, .struct b => fldsB a b
  | .array a b, .array c d => Nat.beq a c && Nat.beq b d
  | .str, .str => true
  | .int k, .int k' => decide (k = k')
  | .bool, .bool => true
  | .iface, .iface => true
  | .other, .other => true
  | _, _ => false
theorem kindB_eq {a b : TyK} (h : kindB a b = true) : a = b := by
  unfold kindB at h
  split at h
  · rw [Nat.eq_of_beq_eq_true h]
  · rw [fldsB_eq h]
  · simp only [Bool.and_eq_true] at h
    rw [Nat.eq_of_beq_eq_true h.1, Nat.eq_of_beq_eq_true h.2]
  · rfl
  · rw [of_decide_eq_true h]
  · rfl
  · rfl
  · rfl
  · cases h
def tyB (P : Program) (t : TypeId) (T : Ty) : Bool :=
  match P.underlying t, P.info? t with
  | some d, some i => (match i.zero with
    | some z => Nat.beq T.size i.size && Nat.beq T.bytes i.bytes && decide (T.agg = aggD d) && kindB T.kind (kindD d) && valsB T.zero z.cells.toList && (match T.eqi with
      | true => eqIntsB P t T.size
      | false => true)
    | none => false)
  | _, _ => false
def tabB (P : Program) : TyTab → Bool
  | [] => true
  | (t, T) :: r => tyB P t T && tabB P r
theorem tabB_ok {P : Program} : ∀ {tab : TyTab}, tabB P tab = true → TabOk P tab
  | [], _ => fun p hp => by cases hp
  | (t, T) :: r, h => fun p hp => by
    simp only [tabB, Bool.and_eq_true] at h
    rcases List.mem_cons.1 hp with rfl | hp
    · have h1 := h.1
      unfold tyB at h1
      split at h1
      · rename_i d i hd hi
        split at h1
        · rename_i z hz
          simp only [Bool.and_eq_true] at h1
          obtain ⟨⟨⟨⟨⟨a1, a2⟩, a3⟩, a4⟩, a5⟩, a6⟩ := h1
          refine ⟨d, i, z, hd, hi, hz, Nat.eq_of_beq_eq_true a1, Nat.eq_of_beq_eq_true a2, of_decide_eq_true a3, kindB_eq a4, valsB_eq a5, fun e => ?_⟩
          rw [e] at a6
          exact a6
        · cases h1
      · cases h1
    · exact tabB_ok h.2 p hp
def FeL (P : Program) (tab : TyTab) (fes : List Fe) : Nat → List Fe → Prop
  | _, [] => True
  | n, fe :: r => FeOk P tab fes n fe ∧ FeL P tab fes (n + 1) r
theorem FeL.get {P : Program} {tab : TyTab} {fes : List Fe} : ∀ {n : Nat} {l : List Fe}, FeL P tab fes n l → ∀ (i : Nat) (fe : Fe), l[i]? = some fe → FeOk P tab fes (n + i) fe
  | n, [], _, i, fe, h => by simp at h
  | n, x :: r, hl, 0, fe, h => by
    simp only [List.getElem?_cons_zero, Option.some.injEq] at h
    subst h
    exact hl.1
  | n, x :: r, hl, i + 1, fe, h => by
    have := FeL.get hl.2 i fe (by simpa using h)
    rwa [show n + 1 + i = n + (i + 1) by omega] at this
theorem FeL.all {P : Program} {tab : TyTab} {fes : List Fe} (h : FeL P tab fes 0 fes) : ∀ (i : Nat) (fe : Fe), fes[i]? = some fe → FeOk P tab fes i fe := fun i fe hi => by
  have := h.get i fe hi
  rwa [Nat.zero_add] at this
end Go.BH
