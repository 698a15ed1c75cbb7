/- From a law's triple over blocks that are only read to what its row asks. -/
import Derived.Test.YtcphdfjoodebiaaAH14
import Derived.Below
set_option linter.unusedVariables false
set_option linter.unusedSimpArgs false
namespace Go.AH
open Go.RowKit
/-- Places by number. -/
def plN (l : List (Option Pl)) : Id → Option Pl
  | .g n => (l[n]?).join
  | .l _ => none
theorem FT.row {P : Program} {f : FuncId} {args : List AV} {cs : List (List AV)} {x : Value} {W : World} {l : List (Option Pl)} {vs : List Value} (h : FT P f args (cs.map .ro) (fun r _ => r = .v x)) (hl : l.length = cs.length)
    (hthere : ∀ (n : Nat) (c : List AV), cs[n]? = some c → c ≠ [] → ∃ a, plN l (.g n) = some a ∧ At (plN l) W a c) (hcl : ∀ c ∈ cs, ∀ y ∈ c, y.noL = true) (hold : ∀ (n : Nat) (a : Pl), l[n]? = some (some a) → a.block < W.heap.size) (hv : VRs (plN l) args vs) :
    Calls P f vs.toArray W (fun e W' => e = .returned x ∧ Below W.heap.size W W') := by
  have hget : ∀ i, (⟨cs.map .ro, []⟩ : Hp).get i = .dead ∨ ∃ n c, i = .g n ∧ cs[n]? = some c ∧ (⟨cs.map .ro, []⟩ : Hp).get i = .ro c := fun i => by
    cases i with
    | l n => exact .inl rfl
    | g n =>
      simp only [Hp.get, List.getElem?_map]
      cases hc : cs[n]? with
      | none => exact .inl rfl
      | some c => exact .inr ⟨n, c, rfl, hc, rfl⟩
  have holdI : ∀ (i : Id) (a : Pl), plN l i = some a → a.block < W.heap.size := fun i a h => by
    cases i with
    | l n => cases h
    | g n =>
      simp only [plN] at h
      cases hn : l[n]? with
      | none => rw [hn] at h; cases h
      | some q => rw [hn] at h; exact hold n a (by rw [hn]; simpa using h)
  have hHR : HR W.heap.size (plN l) ⟨cs.map .ro, []⟩ W := by
    refine ⟨fun i hi => ?_, fun i hi => ?_, fun i j _ hi => ?_, fun i y hy => ?_, fun i a ha => holdI i a ha⟩
    · rcases hget i with e | ⟨n, c, rfl, hc, e⟩
      · rw [e] at hi; exact absurd rfl hi
      · rw [e] at hi ⊢
        obtain ⟨a, ha, hat⟩ := hthere n c hc hi
        exact ⟨a, ha, holdI _ a ha, hat⟩
    · rcases hget i with e | ⟨n, c, rfl, hc, e⟩ <;> rw [e] at hi <;> cases hi
    · rcases hget i with e | ⟨n, c, rfl, hc, e⟩ <;> rw [e] at hi <;> cases hi
    · rcases hget i with e | ⟨n, c, rfl, hc, e⟩
      · rw [e] at hy; cases hy
      · rw [e] at hy; exact hcl c (List.mem_of_getElem? hc) y hy
  refine Calls.mono (h W.heap.size (plN l) W vs (Nat.le_refl _) hHR (fun n hn => ?_) (fun _ => rfl) hv) ?_
  · simp only [plN]
    rw [List.getElem?_eq_none (by simpa [hl] using hn)]
    rfl
  · rintro e w' ⟨c, r, g', μ', rfl, rfl, _, hvr, _, _, _, _, hk, _⟩
    refine ⟨by rw [hvr.val], hk.os, hk.tape, hk.output, hk.size, fun k hk' => hk.block k hk' ?_⟩
    rintro ⟨n, a, hn, _⟩
    simp only [gM, List.getElem?_map] at hn
    cases hc : cs[n]? <;> simp [hc, Blk.isOwn] at hn
end Go.AH
