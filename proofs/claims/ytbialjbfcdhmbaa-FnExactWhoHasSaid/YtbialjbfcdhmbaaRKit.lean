/- Words for the rows of the laws over lists of words. -/
import Derived.Test.YtbialjbfcdhmbaaRows
import Derived.Test.YtbialjbfcdhmbaaPA
import Derived.WalkKit
import Derived.ProofKit
import Derived.OpenShut
import Derived.ShutString
import Derived.ChangeOld
import Derived.Below
import Derived.SizedLaws
import Derived.Carry
import Derived.ChangeArms
import Derived.Lib.SmallJoins
namespace Go.Proofs.Ytbialjbfcdhmbaa.Looks
open Go.ChangeShapes Go.WideShapes Go.ChangeAt Go.RowKit Go.BH
set_option linter.unusedVariables false
set_option linter.unusedSimpArgs false
theorem own : ownKnob Try.prog.godebug = none := by kernel_rfl
theorem laidOut : laidOutB Try.prog = true := by kernel_rfl
theorem ints_of {k : IntKind} {d : D} (h : wfC (.sl [.int k]) d) : ∃ zs : List Int, d = .l (zs.map .i) ∧ zs.length ≤ maxLen ∧ ∀ z ∈ zs, (Lit.int k z).wf = true := by
  cases d with
  | l xs =>
    rw [wfC] at h
    obtain ⟨h1, h2⟩ := h
    have key : ∀ xs : List D, (∀ x ∈ xs, wfZ [.int k] (row [.int k] x)) → ∃ zs : List Int, xs = zs.map .i ∧ ∀ z ∈ zs, (Lit.int k z).wf = true := by
      intro xs
      induction xs with
      | nil => intro _; exact ⟨[], rfl, fun z hz => by cases hz⟩
      | cons x r ih =>
        intro h
        obtain ⟨zs, rfl, hz⟩ := ih (fun y hy => h y (List.mem_cons_of_mem _ hy))
        have hx := (h x List.mem_cons_self).1
        cases x with
        | i n => exact ⟨n :: zs, rfl, fun z hz' => by
            rcases List.mem_cons.1 hz' with rfl | hz'
            · exact hx
            · exact hz z hz'⟩
        | b _ => simp [wfC] at hx
        | s _ => simp [wfC] at hx
        | l _ => simp [wfC] at hx
    obtain ⟨zs, rfl, hz⟩ := key xs h2
    exact ⟨zs, rfl, by simpa using h1, hz⟩
  | i _ => simp [wfC] at h
  | b _ => simp [wfC] at h
  | s _ => simp [wfC] at h
theorem wf_u32 {a : Int} (h : (Lit.int .u32 a).wf = true) : 0 ≤ a ∧ a < 4294967296 := by
  simp only [Lit.wf, Bool.and_eq_true, decide_eq_true_eq] at h
  have e1 : IntKind.u32.min = 0 := by rfl
  have e2 : IntKind.u32.max = 4294967295 := by rfl
  rw [e1, e2] at h
  omega
theorem wf_i64 {a : Int} (h : (Lit.int .i64 a).wf = true) : -9223372036854775808 ≤ a ∧ a < 9223372036854775808 := by
  simp only [Lit.wf, Bool.and_eq_true, decide_eq_true_eq] at h
  have e1 : IntKind.i64.min = -9223372036854775808 := by rfl
  have e2 : IntKind.i64.max = 9223372036854775807 := by rfl
  rw [e1, e2] at h
  omega
theorem words_of {d : D} (h : wfC (.sl [.int .u32]) d) : ∃ xs : List Nat, d = LN xs ∧ xs.length < 9223372036854775808 ∧ ∀ n ∈ xs, n < 4294967296 := by
  obtain ⟨zs, rfl, hl, hz⟩ := ints_of h
  refine ⟨zs.map Int.toNat, ?_, ?_, ?_⟩
  · unfold LN
    rw [List.map_map]
    congr 1
    apply List.map_congr_left
    intro z hz'
    have := wf_u32 (hz z hz')
    simp only [Function.comp]
    congr 1
    omega
  · have : maxLen < 9223372036854775808 := by decide
    simp
    omega
  · intro n hn
    obtain ⟨z, hz', rfl⟩ := List.mem_map.1 hn
    have := wf_u32 (hz z hz')
    omega
/-- A memory of words as an argument. -/
theorem open_mem {H : Type} {enc : TypeId × Value → H} {w : World} {fuel : Nat} {cs : List Value} {y : DataW H × List MemPlace} (hy : DataW.trod enc Try.prog w 0 (fun _ => true) true fuel 33 cs = some y) : ∃ (xs : List Nat) (v : Value), cs = [v] ∧ xs.length < 9223372036854775808 ∧ (∀ n ∈ xs, n < 4294967296) ∧ VR (muW w) ((SV.lz [.int .u32] (.v 0)).den [LN xs]) v ∧ okZ [.sl [.int .u32]] [LN xs] = true := by
  obtain ⟨ds0, wf0, vr0⟩ := trod_kinds (n := 8) (e := [.sl [.int .u32]]) (by kernel_rfl) hy
  obtain ⟨d, rfl⟩ : ∃ d, ds0 = [d] := by
    match ds0, wfZ_ok wf0 with
    | [d], _ => exact ⟨d, rfl⟩
  obtain ⟨xs, rfl, hl, hx⟩ := words_of wf0.1
  cases vr0 with
  | cons h k =>
    cases k
    exact ⟨xs, _, rfl, hl, hx, VR.lend (by rw [LN, encC_sl] at h; exact h), wfZ_ok wf0⟩
end Go.Proofs.Ytbialjbfcdhmbaa.Looks
