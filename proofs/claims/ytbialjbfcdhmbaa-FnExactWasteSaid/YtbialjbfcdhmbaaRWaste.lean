/- FnExactWaste: for every input the law returns true, and the argument reads afterwards as before. No condition. -/
import Derived.Test.YtbialjbfcdhmbaaRows
import Derived.Test.YtbialjbfcdhmbaaPWaste
import Derived.WalkKit
import Derived.ProofKit
import Derived.OpenShut
import Derived.ShutString
import Derived.ChangeOld
import Derived.Below
import Derived.SizedLaws
import Derived.Carry
import Derived.ChangeArms
import Derived.Lib.SmallJoins
namespace Go.Proofs.Ytbialjbfcdhmbaa.Waste
open Go.ChangeShapes Go.WideShapes Go.ChangeAt Go.RowKit Go.BH
set_option linter.unusedVariables false
set_option linter.unusedSimpArgs false
theorem own : ownKnob Try.prog.godebug = none := by kernel_rfl
theorem laidOut : laidOutB Try.prog = true := by kernel_rfl
theorem ints_of {k : IntKind} {d : D} (h : wfC (.sl [.int k]) d) : ∃ zs : List Int, d = .l (zs.map .i) ∧ zs.length ≤ maxLen ∧ ∀ z ∈ zs, (Lit.int k z).wf = true := by
  cases d with
  | l xs =>
    rw [wfC] at h
    obtain ⟨h1, h2⟩ := h
    have key : ∀ xs : List D, (∀ x ∈ xs, wfZ [.int k] (row [.int k] x)) → ∃ zs : List Int, xs = zs.map .i ∧ ∀ z ∈ zs, (Lit.int k z).wf = true := by
      intro xs
      induction xs with
      | nil => intro _; exact ⟨[], rfl, fun z hz => by cases hz⟩
      | cons x r ih =>
        intro h
        obtain ⟨zs, rfl, hz⟩ := ih (fun y hy => h y (List.mem_cons_of_mem _ hy))
        have hx := (h x List.mem_cons_self).1
        cases x with
        | i n => exact ⟨n :: zs, rfl, fun z hz' => by
            rcases List.mem_cons.1 hz' with rfl | hz'
            · exact hx
            · exact hz z hz'⟩
        | b _ => simp [wfC] at hx
        | s _ => simp [wfC] at hx
        | l _ => simp [wfC] at hx
    obtain ⟨zs, rfl, hz⟩ := key xs h2
    exact ⟨zs, rfl, by simpa using h1, hz⟩
  | i _ => simp [wfC] at h
  | b _ => simp [wfC] at h
  | s _ => simp [wfC] at h
theorem wf_i64 {a : Int} (h : (Lit.int .i64 a).wf = true) : rng a := by
  simp only [Lit.wf, Bool.and_eq_true, decide_eq_true_eq] at h
  have e1 : IntKind.i64.min = -9223372036854775808 := by rfl
  have e2 : IntKind.i64.max = 9223372036854775807 := by rfl
  rw [e1, e2] at h
  unfold rng
  omega
set_option maxRecDepth 100000 in
theorem lifted (os : Os) (started : os.Started) (H : Type) (enc : TypeId × Value → H) :
    ReturnsInHanded {} Try.checked os 3 .any (Rows.fnExactWasteSpec.pre6 enc Try.prog Try.f3 Rows.fnExactWasteRow.domain false) (Rows.fnExactWasteSpec.post enc Try.prog Try.f3 false true false false) := by
  refine returnsInHanded_of_change_sized (C := Try.checked) own started (by kernel_rfl) Try.func3
    (ChangeSpec.witness6 (enc := enc) (C := Try.checked) false ⟨#[], #[.slice none 0 0], []⟩ 8 (by kernel_rfl) (by kernel_rfl) (by kernel_rfl) (by kernel_rfl)) ?_
  intro W base args ds gs before hval0 hW hcnd hsz0 _
  have hval : ∀ (j : Nat) t v, Try.f3.params[j]? = some t → args[j]? = some v → Value.okWide Try.prog W .any base t v := hval0
  have hW' := hW
  obtain ⟨p, q, hA0, hV, rfl, hfz, hnd⟩ := hW
  have hA : DataW.TrodAll enc Try.prog W 0 (fun _ => true) true Try.f3.params.toList args.toList ds p := hA0
  rw [Try.params3] at hA hval
  obtain ⟨v0, vs0, d0, ds0, p0, q0, hargs0, rfl, rfl, h0, r0⟩ := trodAll_cons hA
  obtain ⟨rfl, rfl, rfl⟩ := trodAll_nil r0
  obtain rfl : args = #[v0] := by cases args; simp_all
  obtain ⟨rfl, rfl⟩ := trodVars_none hV
  have kk0 := h0
  have lt0 : ∀ x ∈ p0, x.block < W.heap.size := by obtain ⟨m, hm⟩ := kk0; exact DataW.trod_lt m _ _ _ hm
  obtain ⟨a0, len0, cap0, rfl⟩ := okWide_slice Try.underlying22 (hval 0 22 v0 rfl rfl)
  obtain ⟨fu0, hf0⟩ := h0
  obtain ⟨ds0, wf0, vr0⟩ := trod_kinds (n := 8) (e := [.sl [.int .i64]]) (by kernel_rfl) hf0
  obtain ⟨d0', rfl⟩ : ∃ d, ds0 = [d] := by
    match ds0, wfZ_ok wf0 with
    | [d], _ => exact ⟨d, rfl⟩
  obtain ⟨zs, rfl, hzl, hzw⟩ := ints_of wf0.1
  have hlen : zs.length < 9223372036854775808 := by
    have : maxLen < 9223372036854775808 := by decide
    omega
  have hft := (EvF.get (tab := tab) (fes := fes) (by kernel_rfl) tabOk fesOk.all (i := 17) (fe := e17) rfl (vs := [L zs]) (wfZ_ok wf0) (f17 zs hlen (fun z hz => wf_i64 (hzw z hz)))).2
  have hv : VRs (muW W) (SV.dens (envA e17.sig [L zs]) e17.sig.args) [.slice a0 len0 cap0] := by
    cases vr0 with
    | cons h k => cases k; exact .cons (VR.lend (by rw [encC_sl] at h; exact h)) .nil
  refine (FT.row (x := .bool true) (W := W) (vs := [.slice a0 len0 cap0]) hft (fun r H' nx h => by rw [h.1]; rfl) hv).mono fun e W' ⟨he, bel⟩ => ?_
  subst he
  exact ⟨_, rfl, _, _, _, [], _, [], hW', trodAll_mk1 (shut_bool Try.underlying4 _), (trodAll_cons_mk (Below.trod laidOut (by kernel_rfl) (of_decide_eq_true (by kernel_rfl)) kk0 bel lt0) trodAll_mk0), rfl, bel.frame _, fun h => by cases h⟩
theorem over : Rows.fnExactWasteRow.holds Try.pinned (OpenSpec.ofChange Rows.fnExactWasteSpec) :=
  OpenClaim.holds_of_wide 3 Try.f3 rfl rfl rfl rfl rfl rfl rfl ⟨rfl, rfl, rfl, rfl, rfl⟩ rfl rfl rfl rfl rfl (by kernel_rfl) Try.func3 (by kernel_rfl)
    (of_decide_eq_true (by kernel_rfl)) (by unfold Func.isWrapper; first | (rw [if_pos (by decide +kernel)]; kernel_rfl) | (rw [if_neg (by decide +kernel)]; exact ⟨rfl, rfl⟩))
    (fun os started H enc _ => lifted os started H enc)
end Go.Proofs.Ytbialjbfcdhmbaa.Waste
namespace Go.Proofs.Ytbialjbfcdhmbaa
theorem fnExactWaste_holds : Rows.FnExactWasteSaid := Waste.over
end Go.Proofs.Ytbialjbfcdhmbaa
#print axioms Go.Proofs.Ytbialjbfcdhmbaa.fnExactWaste_holds
